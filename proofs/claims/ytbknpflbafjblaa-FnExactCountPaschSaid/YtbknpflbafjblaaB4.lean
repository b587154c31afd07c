/- Plain laws and contracts, part 4; conditions: stated in each. -/
import Derived.Test.YtbknpflbafjblaaB1
import Derived.Test.YtbknpflbafjblaaB2
set_option linter.unusedSimpArgs false
set_option linter.unusedVariables false
/- Plain laws of the classes: the sets by the least point that is left are the sets in order. Conditions: none. -/
namespace Go.Proofs.Ytbknpflbafjblaa

/-- the least number from k on, of f tries, that is in all and not in m -/
def lowP (all m : Nat) : Nat → Nat → Nat
  | 0, k => k
  | f + 1, k => if all.testBit k && !m.testBit k then k else lowP all m f (k + 1)
theorem lowP_spec (all m : Nat) : ∀ f k p, k ≤ p → p < k + f → all.testBit p = true → m.testBit p = false → (∀ q, k ≤ q → q < p → ¬ (all.testBit q = true ∧ m.testBit q = false)) → lowP all m f k = p := by
  intro f
  induction f with
  | zero => intro k p h1 h2; omega
  | succ f ih =>
    intro k p h1 h2 h3 h4 h5
    rw [lowP]
    by_cases e : k = p
    · subst e; rw [if_pos (by simp [h3, h4])]
    · have h6 := h5 k (Nat.le_refl _) (by omega)
      rw [if_neg (by simp only [Bool.and_eq_true, Bool.not_eq_true']; exact h6)]
      exact ih (k + 1) p (by omega) (by omega) h3 h4 (fun q hq => h5 q (by omega))
def inA (all : Nat) (b : Blk) : Bool := maskB b &&& all == maskB b
/-- the sets that go on from one, by the least point that is left -/
noncomputable def clsL (xs : List Blk) (all : Nat) : Nat → List Int → Nat → List (List Int)
  | 0, now, m => if m = all then [now] else []
  | d + 1, now, m => if m = all then [now] else
      loopL (fun i => clsL xs all d (now ++ [(i : Int)]) (m ||| maskB (nth xs i))) (fun i => hasB (nth xs i) (lowP all m 15 0 : Nat) && (maskB (nth xs i) &&& m == 0) && inA all (nth xs i)) 0 xs.length
/-- the number of the sets in order -/
def cntA (xs : List Blk) (all : Nat) : Nat → Nat → Nat → Nat
  | 0, _, _ => 1
  | d + 1, m, a => loopS (fun i => cntA xs all d (m ||| maskB (nth xs i)) (i + 1)) (fun i => (maskB (nth xs i) &&& m == 0) && inA all (nth xs i)) a xs.length
/-- the points that are left -/
def left (all m : Nat) : Nat := cntF (fun j => all.testBit j && !m.testBit j) 15
theorem inA_iff {b : Blk} (hg : goodB 15 b = true) {all : Nat} : inA all b = true ↔ ∀ j : Nat, hasB b j = true → all.testBit j = true := by
  unfold inA
  rw [beq_iff_eq]
  constructor
  · intro h j hj
    have : (maskB b &&& all).testBit j = (maskB b).testBit j := by rw [h]
    rw [Nat.testBit_and, maskB_bit hg, hj] at this
    simpa using this
  · intro h
    apply Nat.eq_of_testBit_eq
    intro j
    rw [Nat.testBit_and, maskB_bit hg]
    cases hj : hasB b j
    · rfl
    · rw [h j hj]; rfl
theorem dj_iff {b : Blk} (hg : goodB 15 b = true) {m : Nat} : (maskB b &&& m == 0) = true ↔ ∀ j : Nat, hasB b j = true → m.testBit j = false := by
  rw [beq_iff_eq]
  constructor
  · intro h j hj
    have : (maskB b &&& m).testBit j = false := by rw [h]; simp
    rw [Nat.testBit_and, maskB_bit hg, hj] at this
    simpa using this
  · intro h
    apply Nat.eq_of_testBit_eq
    intro j
    rw [Nat.testBit_and, maskB_bit hg]
    cases hj : hasB b j
    · simp
    · rw [h j hj]; simp
theorem left_step {b : Blk} (hg : goodB 15 b = true) {all m : Nat} (hd : (maskB b &&& m == 0) = true) (hi : inA all b = true) : left all m = left all (m ||| maskB b) + 3 := by
  have h3 := cnt_blk hg (2 ^ 15 - 1)
  have hb := good_bd hg
  have e3 : cntF (fun j => hasB b j) 15 = 3 := by
    rw [cntF_has hg, if_pos (by omega), if_pos (by omega), if_pos (by omega)]
  have := cntF_or (f := fun j => all.testBit j && !(m ||| maskB b).testBit j) (g := fun j => hasB b j) (h := fun j => all.testBit j && !m.testBit j) 15 (fun j _ => by
    rw [Nat.testBit_or, maskB_bit hg]
    have h1 := (inA_iff hg).1 hi j
    have h2 := (dj_iff hg).1 hd j
    cases hj : hasB b j
    · simp
    · rw [h1 hj, h2 hj]; simp)
  unfold left
  omega
theorem left_zero {all m : Nat} (ha : all < 32768) (hm : m < 32768) (hsub : ∀ j, m.testBit j = true → all.testBit j = true) : left all m = 0 ↔ m = all := by
  have hbig : ∀ x j, x < 32768 → 15 ≤ j → x.testBit j = false := fun x j hx hj => Nat.testBit_lt_two_pow (Nat.lt_of_lt_of_le hx (by have : 2 ^ 15 ≤ 2 ^ j := Nat.pow_le_pow_right (by omega) hj; simpa using this))
  constructor
  · intro h
    apply Nat.eq_of_testBit_eq
    intro j
    by_cases hj : j < 15
    · have key : ∀ n, cntF (fun j => all.testBit j && !m.testBit j) n = 0 → ∀ j, j < n → (all.testBit j && !m.testBit j) = false := by
        intro n
        induction n with
        | zero => intro _ j hj; omega
        | succ n ih =>
          intro h j hj
          rw [cntF] at h
          by_cases e : j = n
          · subst e
            cases hh : (all.testBit j && !m.testBit j)
            · rfl
            · rw [hh] at h; simp at h
          · exact ih (by omega) j (by omega)
      have := key 15 h j hj
      cases hm1 : m.testBit j
      · rw [hm1] at this; simpa using this.symm
      · rw [hsub j hm1]
    · rw [hbig m j hm (by omega), hbig all j ha (by omega)]
  · rintro rfl
    unfold left
    have : ∀ n, cntF (fun j => m.testBit j && !m.testBit j) n = 0 := by
      intro n
      induction n with
      | zero => rfl
      | succ n ih => rw [cntF, ih]; cases m.testBit n <;> rfl
    exact this 15
theorem low_is {all m : Nat} (ha : all < 32768) (hm : m < 32768) (hsub : ∀ j, m.testBit j = true → all.testBit j = true) (hne : m ≠ all) : ∃ p, lowP all m 15 0 = p ∧ p < 15 ∧ all.testBit p = true ∧ m.testBit p = false ∧ ∀ q, q < p → all.testBit q = true → m.testBit q = true := by
  rcases first_of (P := fun j => all.testBit j && !m.testBit j) 15 with h | ⟨i, h1, h2, h3⟩
  · exfalso
    apply hne
    rw [← left_zero ha hm hsub]
    unfold left
    have : ∀ n, n ≤ 15 → cntF (fun j => all.testBit j && !m.testBit j) n = 0 := by
      intro n
      induction n with
      | zero => intro _; rfl
      | succ n ih => intro hn; rw [cntF, ih (by omega), h n (by omega)]; rfl
    exact this 15 (Nat.le_refl _)
  · simp only [Bool.and_eq_true, Bool.not_eq_true'] at h2
    have h4 : ∀ q, q < i → all.testBit q = true → m.testBit q = true := by
      intro q hq ha'
      have := h3 q hq
      rw [ha'] at this
      simpa using this
    refine ⟨i, lowP_spec all m 15 0 i (by omega) (by omega) h2.1 h2.2 (fun q _ hq hc => ?_), h1, h2.1, h2.2, h4⟩
    rw [h4 q hq hc.1] at hc; cases hc.2
/-- what is known on the way -/
structure Lead (xs : List Blk) (all : Nat) (now : List Int) (m : Nat) : Prop where
  alt : all < 32768
  mlt : m < 32768
  sub : ∀ j, m.testBit j = true → all.testBit j = true
  ris : risesI now xs.length
  fst : ∀ j, j < now.length → ∀ q : Nat, (q : Int) ≤ (blkAt xs now j).1 → all.testBit q = true → m.testBit q = true
theorem first_mono {v : Int} {xs : List Blk} (ha : areB v xs) {i j : Nat} (hj : j < xs.length) (hij : i ≤ j) : (nth xs i).1 ≤ (nth xs j).1 := by
  by_cases e : i = j
  · subst e; exact Int.le_refl _
  · have := are_bef ha j hj i (by omega)
    unfold befB at this
    simp only [decide_eq_true_eq] at this
    omega
theorem lead_fit {v : Int} {xs : List Blk} (hv : v ≤ 15) (ha : areB v xs) {all m : Nat} {now : List Int} (hL : Lead xs all now m) (hne : m ≠ all) {i : Nat} (hi : i < xs.length)
    (hp : hasB (nth xs i) (lowP all m 15 0 : Nat) = true) (hd : (maskB (nth xs i) &&& m == 0) = true) (hin : inA all (nth xs i) = true) : fromI now ≤ i ∧ Lead xs all (now ++ [(i : Int)]) (m ||| maskB (nth xs i)) ∧ (nth xs i).1 = (lowP all m 15 0 : Nat) := by
  have hg := good_mono (ha i hi).1 hv
  have hb := good_bd hg
  obtain ⟨p, hpe, hp15, hpa, hpm, hpq⟩ := low_is hL.alt hL.mlt hL.sub hne
  rw [hpe] at hp ⊢
  obtain ⟨B, hB⟩ := Int.eq_ofNat_of_zero_le hb.1
  have hB1 : hasB (nth xs i) B = true := has_iff.2 (.inl hB)
  have hBall := (inA_iff hg).1 hin B hB1
  have hBm := (dj_iff hg).1 hd B hB1
  have hpB : (B : Int) ≤ p := by rw [← hB]; rcases has_iff.1 hp with e | e | e <;> omega
  have hfst : B = p := by
    rcases Nat.lt_or_ge B p with hlt | hge
    · rw [hpq B hlt hBall] at hBm; cases hBm
    · omega
  have hfrom : fromI now ≤ i := by
    unfold fromI
    split
    · omega
    · rename_i hn
      have hlast := (hL.ris (now.length - 1) (by omega)).1
      rcases Nat.lt_or_ge i ((nthI now (now.length - 1)).toNat + 1) with hlt | hge
      · exfalso
        have hm := first_mono ha (i := i) (j := (nthI now (now.length - 1)).toNat) (by omega) (by omega)
        have hf := hL.fst (now.length - 1) (by omega) p (by unfold blkAt; omega) hpa
        rw [hf] at hpm; cases hpm
      · exact hge
  refine ⟨hfrom, ⟨hL.alt, ?_, fun j hj => ?_, rises_snoc hL.ris hi hfrom, fun j hj q hq ha' => ?_⟩, by omega⟩
  · have hml := maskB_lt hg
    have : m ||| maskB (nth xs i) < 2 ^ 15 := Nat.or_lt_two_pow (by simpa using hL.mlt) (by simpa using hml)
    simpa using this
  · rw [Nat.testBit_or, Bool.or_eq_true, maskB_bit hg] at hj
    rcases hj with h | h
    · exact hL.sub j h
    · exact (inA_iff hg).1 hin j h
  · rw [Nat.testBit_or, Bool.or_eq_true, maskB_bit hg]
    rw [List.length_append, List.length_singleton] at hj
    by_cases e : j = now.length
    · subst e
      rw [blkAt_last] at hq
      by_cases eq : q = p
      · subst eq; exact .inr hp
      · exact .inl (hpq q (by omega) ha')
    · rw [blkAt_app (by omega)] at hq
      exact .inl (hL.fst j (by omega) q hq ha')
theorem cntF_mono' {f g : Nat → Bool} (n : Nat) (h : ∀ j, j < n → f j = true → g j = true) : cntF f n ≤ cntF g n := by
  induction n with
  | zero => simp [cntF]
  | succ n ih =>
    have h1 := ih (fun j hj => h j (by omega)); have h2 := h n (by omega)
    rw [cntF, cntF]
    cases hf : f n <;> cases hg : g n <;> simp_all <;> omega
theorem cntA_dead {v : Int} {xs : List Blk} (hv : v ≤ 15) (ha : areB v xs) {all : Nat} (p : Nat) (hp : all.testBit p = true) (hp15 : p < 15) : ∀ d m a, m.testBit p = false → 3 * d = left all m → (∀ j, a ≤ j → j < xs.length → hasB (nth xs j) p = false) → cntA xs all d m a = 0 := by
  intro d
  induction d with
  | zero =>
    intro m a hm hd _
    exfalso
    have h1 := cntF_mono' (f := fun j => decide (j = p)) (g := fun j => all.testBit j && !m.testBit j) 15 (fun j _ h => by simp only [decide_eq_true_eq] at h; subst h; rw [hp, hm]; rfl)
    rw [cntF_eq p 15 hp15] at h1
    unfold left at hd
    omega
  | succ d ih =>
    intro m a hm hd hno
    rw [cntA]
    have key : ∀ n, n ≤ xs.length → loopS (fun i => cntA xs all d (m ||| maskB (nth xs i)) (i + 1)) (fun i => (maskB (nth xs i) &&& m == 0) && inA all (nth xs i)) a n = 0 := by
      intro n
      induction n with
      | zero => intro _; rfl
      | succ n ihn =>
        intro hn
        rw [loopS, ihn (by omega)]
        split
        · rename_i hc
          obtain ⟨h1, h2⟩ := hc
          simp only [Bool.and_eq_true] at h2
          have hg := good_mono (ha n (by omega)).1 hv
          rw [ih _ _ ?_ ?_ (fun j hj => hno j (by omega))]
          · rw [Nat.testBit_or, hm, maskB_bit hg, hno n h1 (by omega)]; rfl
          · have := left_step hg h2.1 h2.2; omega
        · rfl
    exact key xs.length (Nat.le_refl _)

theorem loopS_zero {f : Nat → Nat} {p : Nat → Bool} {a : Nat} : ∀ n, (∀ i, a ≤ i → i < n → p i = true → f i = 0) → loopS f p a n = 0 := by
  intro n
  induction n with
  | zero => intro _; rfl
  | succ n ih =>
    intro h
    rw [loopS, ih (fun i h1 h2 => h i h1 (by omega))]
    split
    · rename_i hc; rw [h n hc.1 (by omega) hc.2]
    · rfl
theorem loop_count {f : Nat → List (List Int)} {g : Nat → Nat} {p q : Nat → Bool} {a n : Nat} (h : ∀ i, i < n → (p i = true → a ≤ i ∧ q i = true ∧ (f i).length = g i) ∧ (a ≤ i → q i = true → p i = false → g i = 0)) : ∀ m, m ≤ n → (loopL f p 0 m).length = loopS g q a m := by
  intro m
  induction m with
  | zero => intro _; rfl
  | succ m ih =>
    intro hm
    rw [loopL, loopS, List.length_append, ih (by omega)]
    obtain ⟨h1, h2⟩ := h m (by omega)
    cases hp : p m
    · rw [if_neg (by simp)]
      by_cases hc : a ≤ m ∧ q m = true
      · rw [if_pos hc, h2 hc.1 hc.2 hp]; rfl
      · rw [if_neg hc]; rfl
    · obtain ⟨k1, k2, k3⟩ := h1 hp
      rw [if_pos ⟨Nat.zero_le _, rfl⟩, if_pos ⟨k1, k2⟩, k3]
theorem cls_len {v : Int} {xs : List Blk} (hv : v ≤ 15) (ha : areB v xs) {all : Nat} : ∀ d now m, Lead xs all now m → 3 * d = left all m → (clsL xs all d now m).length = cntA xs all d m (fromI now) := by
  intro d
  induction d with
  | zero =>
    intro now m hL hd
    have := (left_zero hL.alt hL.mlt hL.sub).1 (by omega)
    rw [clsL, if_pos this]; rfl
  | succ d ih =>
    intro now m hL hd
    have hne : m ≠ all := fun e => by have := (left_zero hL.alt hL.mlt hL.sub).2 e; omega
    rw [clsL, if_neg hne, cntA]
    refine loop_count (n := xs.length) (fun i hi => ⟨fun hp => ?_, fun h1 h2 h3 => ?_⟩) xs.length (Nat.le_refl _)
    · simp only [Bool.and_eq_true] at hp
      obtain ⟨⟨p1, p2⟩, p3⟩ := hp
      obtain ⟨k1, k2, k3⟩ := lead_fit hv ha hL hne hi p1 p2 p3
      have hg := good_mono (ha i hi).1 hv
      have hls := left_step hg p2 p3
      exact ⟨k1, by rw [p2, p3]; rfl, by rw [ih _ _ k2 (by omega), fromI_snoc]⟩
    · simp only [Bool.and_eq_true] at h2
      rw [h2.1, h2.2] at h3
      simp only [Bool.and_true] at h3
      obtain ⟨p, hpe, hp15, hpa, hpm, hpq⟩ := low_is hL.alt hL.mlt hL.sub hne
      rw [hpe] at h3
      have hg := good_mono (ha i hi).1 hv
      have hb := good_bd hg
      have hls := left_step hg h2.1 h2.2
      obtain ⟨B, hB⟩ := Int.eq_ofNat_of_zero_le hb.1
      have hB1 : hasB (nth xs i) B = true := has_iff.2 (.inl hB)
      have hBall := (inA_iff hg).1 h2.2 B hB1
      have hBm := (dj_iff hg).1 h2.1 B hB1
      have hBp : p < B := by
        rcases Nat.lt_trichotomy B p with h | h | h
        · rw [hpq B h hBall] at hBm; cases hBm
        · rw [h, h3] at hB1; cases hB1
        · exact h
      refine cntA_dead hv ha p hpa hp15 d _ _ ?_ (by omega) (fun j hj hjl => ?_)
      · rw [Nat.testBit_or, hpm, maskB_bit hg, h3]; rfl
      · have hm := first_mono ha (i := i) hjl (by omega)
        have hgj := good_bd (ha j hjl).1
        rw [← Bool.not_eq_true, has_iff]
        omega
theorem cls_none {v : Int} {xs : List Blk} (hv : v ≤ 15) (ha : areB v xs) {all : Nat} : ∀ d now m, Lead xs all now m → left all m % 3 ≠ 0 → clsL xs all d now m = [] := by
  intro d
  induction d with
  | zero =>
    intro now m hL hd
    have hne : m ≠ all := fun e => by have := (left_zero hL.alt hL.mlt hL.sub).2 e; omega
    rw [clsL, if_neg hne]
  | succ d ih =>
    intro now m hL hd
    have hne : m ≠ all := fun e => by have := (left_zero hL.alt hL.mlt hL.sub).2 e; omega
    rw [clsL, if_neg hne, loopL_empty]
    intro i _ hi hp
    simp only [Bool.and_eq_true] at hp
    obtain ⟨⟨p1, p2⟩, p3⟩ := hp
    obtain ⟨k1, k2, k3⟩ := lead_fit hv ha hL hne hi p1 p2 p3
    have hls := left_step (good_mono (ha i hi).1 hv) p2 p3
    exact ih _ _ k2 (by omega)
/-- all points -/
def allM (n : Nat) : Nat := 2 ^ n - 1
theorem allM_bit (n j : Nat) : (allM n).testBit j = decide (j < n) := by unfold allM; exact Nat.testBit_two_pow_sub_one n j
theorem allM_lt {n : Nat} (h : n ≤ 15) : allM n < 32768 := by
  have : 2 ^ n ≤ 2 ^ 15 := Nat.pow_le_pow_right (by omega) h
  have e : 2 ^ 15 = 32768 := by decide
  unfold allM; omega
theorem cntA_all {n : Nat} {xs : List Blk} (ha : areB n xs) (hn : n ≤ 15) : ∀ d m a, cntA xs (allM n) d m a = cntS xs d m a := by
  intro d
  induction d with
  | zero => intro m a; rfl
  | succ d ih =>
    intro m a
    rw [cntA, cntS]
    have key : ∀ k, k ≤ xs.length → loopS (fun i => cntA xs (allM n) d (m ||| maskB (nth xs i)) (i + 1)) (fun i => (maskB (nth xs i) &&& m == 0) && inA (allM n) (nth xs i)) a k = loopS (fun i => cntS xs d (m ||| maskB (nth xs i)) (i + 1)) (fun i => maskB (nth xs i) &&& m == 0) a k := by
      intro k
      induction k with
      | zero => intro _; rfl
      | succ k ihk =>
        intro hk
        have hg := ha k (by omega)
        have hin : inA (allM n) (nth xs k) = true := (inA_iff (good_mono hg.1 (by omega))).2 fun j hj => by
          rw [allM_bit]
          have := good_bd hg.1
          have := has_iff.1 hj
          simp only [decide_eq_true_eq]; omega
        rw [loopS, loopS, ihk (by omega), ih, hin, Bool.and_true]
    exact key xs.length (Nat.le_refl _)
theorem left_all {n : Nat} (hn : n ≤ 15) : left (allM n) 0 = n := by
  unfold left
  rw [cntF_congr (g := fun j => decide (j < n)) 15 (fun j _ => by rw [allM_bit]; simp)]
  have : ∀ k, cntF (fun j => decide (j < n)) k = min n k := by
    intro k
    induction k with
    | zero => simp [cntF]
    | succ k ih => rw [cntF, ih]; by_cases h : k < n <;> simp [h] <;> omega
  rw [this]; omega
/-- all points but one -/
def butM (n q : Nat) : Nat := allM n - 2 ^ q
theorem butM_small : ∀ n, n < 16 → ∀ q, q < n → ∀ j, j < 16 → (butM n q).testBit j = (decide (j < n) && decide (j ≠ q)) := by decide +kernel
theorem butM_lt {n q : Nat} (hn : n ≤ 15) : butM n q < 32768 := by have h := allM_lt hn; unfold butM; exact Nat.lt_of_le_of_lt (Nat.sub_le _ _) h
theorem butM_bit {n q : Nat} (hn : n ≤ 15) (hq : q < n) (j : Nat) : (butM n q).testBit j = (decide (j < n) && decide (j ≠ q)) := by
  by_cases hj : j < 16
  · exact butM_small n (by omega) q hq j hj
  · have h1 := butM_lt (q := q) hn
    rw [Nat.testBit_lt_two_pow (Nat.lt_of_lt_of_le h1 (by have : 2 ^ 15 ≤ 2 ^ j := Nat.pow_le_pow_right (by omega) (by omega); simpa using this))]
    have : ¬ j < n := by omega
    simp [this]
theorem cntF_cut (f : Nat → Bool) (n : Nat) : ∀ k, cntF (fun j => decide (j < n) && f j) (n + k) = cntF f n := by
  intro k
  induction k with
  | zero => exact cntF_congr n fun j hj => by simp [hj]
  | succ k ih =>
    rw [← Nat.add_assoc, cntF, ih]
    have : ¬ n + k < n := by omega
    simp [this]
theorem left_allM {n : Nat} (hn : n ≤ 15) (m : Nat) : left (allM n) m = cntF (fun j => !m.testBit j) n := by
  unfold left
  rw [cntF_congr (g := fun j => decide (j < n) && !m.testBit j) 15 (fun j _ => by rw [allM_bit])]
  have := cntF_cut (fun j => !m.testBit j) n (15 - n)
  have e : n + (15 - n) = 15 := by omega
  rwa [e] at this
theorem left_but {n q : Nat} (hn : n ≤ 15) (hq : q < n) : left (butM n q) 0 = n - 1 := by
  have h1 := left_all hn
  have h2 := cntF_or (f := fun j => (butM n q).testBit j && !(0 : Nat).testBit j) (g := fun j => decide (j = q)) (h := fun j => (allM n).testBit j && !(0 : Nat).testBit j) 15 (fun j _ => by
    rw [butM_bit hn hq, allM_bit]
    by_cases e : j = q
    · subst e; simp [hq]
    · simp [e])
  rw [cntF_eq q 15 (by omega)] at h2
  unfold left at *
  omega
theorem loopS_sum (f : Nat → Nat) (p : Nat → Bool) (a : Nat) : ∀ n, loopS f p a n = sumN (fun i => if a ≤ i ∧ p i = true then f i else 0) n := by
  intro n
  induction n with
  | zero => rfl
  | succ n ih => rw [loopS, sumN, ih]
theorem sumN_swap' (f : Nat → Nat → Nat) (n : Nat) : ∀ m, sumN (fun i => sumN (f i) n) m = sumN (fun j => sumN (fun i => f i j) m) n := by
  intro m
  induction m with
  | zero =>
    have : sumN (fun j => sumN (fun i => f i j) 0) n = sumN (fun _ => 0) n := sumN_congr n fun j _ => rfl
    rw [this, sumN_const]; simp [sumN]
  | succ m ih =>
    rw [sumN, ih, ← sumN_add]
    exact sumN_congr n fun j _ => rfl
theorem near_sum {n : Nat} {xs : List Blk} (ha : areB n xs) (hn : n ≤ 15) : ∀ d m a, left (allM n) m = 3 * d + 1 → sumN (fun q => if m.testBit q = true then 0 else cntA xs (butM n q) d m a) n = cntS xs d m a := by
  intro d
  induction d with
  | zero =>
    intro m a h
    rw [left_allM hn, ← sumN_cnt] at h
    have e : sumN (fun q => if m.testBit q = true then 0 else cntA xs (butM n q) 0 m a) n = sumN (fun i => if (!m.testBit i) = true then 1 else 0) n := sumN_congr n fun q _ => by cases m.testBit q <;> simp [cntA]
    rw [cntS, e, h]
  | succ d ih =>
    intro m a h
    rw [cntS, loopS_sum]
    have e1 : ∀ q, q < n → (if m.testBit q = true then 0 else cntA xs (butM n q) (d + 1) m a) = sumN (fun i => if m.testBit q = true then 0 else if a ≤ i ∧ ((maskB (nth xs i) &&& m == 0) && inA (butM n q) (nth xs i)) = true then cntA xs (butM n q) d (m ||| maskB (nth xs i)) (i + 1) else 0) xs.length := by
      intro q hq
      rw [cntA, loopS_sum]
      cases hm : m.testBit q
      · exact sumN_congr _ fun i _ => by simp
      · rw [if_pos rfl, sumN_congr (g := fun _ => 0) _ (fun i _ => by simp), sumN_const]; simp
    rw [sumN_congr n e1, sumN_swap']
    refine sumN_congr _ fun i hi => ?_
    have hg := good_mono (ha i hi).1 (by omega : (n : Int) ≤ 15)
    by_cases hc : a ≤ i ∧ (maskB (nth xs i) &&& m == 0) = true
    · rw [if_pos hc]
      have hin : inA (allM n) (nth xs i) = true := (inA_iff hg).2 fun j hj => by
        rw [allM_bit]
        have := good_bd (ha i hi).1
        have := has_iff.1 hj
        simp only [decide_eq_true_eq]; omega
      rw [← ih (m ||| maskB (nth xs i)) (i + 1) (by have := left_step hg hc.2 hin; omega)]
      refine sumN_congr n fun q hq => ?_
      rw [Nat.testBit_or, maskB_bit hg, hc.2]
      cases hm : m.testBit q
      · cases hb : hasB (nth xs i) q
        · have : inA (butM n q) (nth xs i) = true := (inA_iff hg).2 fun j hj => by
            rw [butM_bit hn hq]
            have h1 := (inA_iff hg).1 hin j hj
            rw [allM_bit] at h1
            have : j ≠ q := fun e => by rw [e, hb] at hj; cases hj
            rw [h1]; simp [this]
          simp [this, hc.1]
        · have : inA (butM n q) (nth xs i) = false := by
            rw [← Bool.not_eq_true]
            intro h2
            have := (inA_iff hg).1 h2 q hb
            rw [butM_bit hn hq] at this
            simp at this
          simp [this]
      · simp
    · rw [if_neg hc]
      have : ∀ q, q < n → (if m.testBit q = true then 0 else if a ≤ i ∧ ((maskB (nth xs i) &&& m == 0) && inA (butM n q) (nth xs i)) = true then cntA xs (butM n q) d (m ||| maskB (nth xs i)) (i + 1) else 0) = (fun _ => 0) q := by
        intro q _
        have : ¬ (a ≤ i ∧ ((maskB (nth xs i) &&& m == 0) && inA (butM n q) (nth xs i)) = true) := fun h2 => hc ⟨h2.1, by have := h2.2; simp only [Bool.and_eq_true] at this; exact this.1⟩
        rw [if_neg this]; simp
      rw [sumN_congr n this, sumN_const]; simp
theorem lead_nil (xs : List Blk) {all : Nat} (h : all < 32768) : Lead xs all [] 0 := ⟨h, by omega, fun j hj => by simp at hj, fun k hk => by simp at hk, fun j hj => by simp at hj⟩
theorem full_count {n : Nat} {xs : List Blk} (ha : areB n xs) (hn : n ≤ 15) : (clsL xs (allM n) (n / 3) [] 0).length = if n % 3 = 0 then cntS xs (n / 3) 0 0 else 0 := by
  have hl := left_all hn
  split
  · rename_i h
    rw [cls_len (v := n) (by omega) ha _ _ _ (lead_nil xs (allM_lt hn)) (by omega), cntA_all ha hn]; rfl
  · rename_i h
    rw [cls_none (v := n) (by omega) ha _ _ _ (lead_nil xs (allM_lt hn)) (by omega)]; rfl
theorem near_count {n : Nat} {xs : List Blk} (ha : areB n xs) (hn : n ≤ 15) (hn3 : 3 ≤ n) : sumN (fun q => (clsL xs (butM n q) (n / 3) [] 0).length) n = if n % 3 = 1 then cntS xs (n / 3) 0 0 else 0 := by
  split
  · rename_i h
    rw [← near_sum ha hn (n / 3) 0 0 (by rw [left_all hn]; omega)]
    refine sumN_congr n fun q hq => ?_
    rw [cls_len (v := n) (by omega) ha _ _ _ (lead_nil xs (butM_lt hn)) (by rw [left_but hn hq]; omega)]
    simp [fromI]
  · rename_i h
    have : ∀ q, q < n → (clsL xs (butM n q) (n / 3) [] 0).length = (fun _ => 0) q := by
      intro q hq
      rw [cls_none (v := n) (by omega) ha _ _ _ (lead_nil xs (butM_lt hn)) (by rw [left_but hn hq]; omega)]; rfl
    rw [sumN_congr n this, sumN_const]; simp

end Go.Proofs.Ytbknpflbafjblaa

/- Plain laws of the greatest independent sets. Conditions: stated in each. -/
namespace Go.Proofs.Ytbknpflbafjblaa

noncomputable def indB (xs : List Blk) (s : Nat) : Bool := open Classical in decide (∀ i, i < xs.length → maskB (nth xs i) &&& s ≠ maskB (nth xs i))
theorem indB_iff {xs : List Blk} {s : Nat} : indB xs s = true ↔ ∀ i, i < xs.length → maskB (nth xs i) &&& s ≠ maskB (nth xs i) := by unfold indB; simp
theorem and_sub {m s : Nat} : m &&& s = m ↔ ∀ j, m.testBit j = true → s.testBit j = true := by
  constructor
  · intro h j hj
    have : (m &&& s).testBit j = m.testBit j := by rw [h]
    rw [Nat.testBit_and, hj] at this
    simpa using this
  · intro h
    apply Nat.eq_of_testBit_eq
    intro j
    rw [Nat.testBit_and]
    cases hj : m.testBit j
    · rfl
    · rw [h j hj]; rfl
theorem ind_sub {xs : List Blk} {s t : Nat} (h : indB xs s = true) (hs : ∀ j, t.testBit j = true → s.testBit j = true) : indB xs t = true := by
  rw [indB_iff] at h ⊢
  intro i hi e
  exact h i hi (and_sub.2 fun j hj => hs j (and_sub.1 e j hj))
theorem ind_zero {xs : List Blk} (hg : ∀ i, i < xs.length → goodB 15 (nth xs i) = true) : indB xs 0 = true := by
  rw [indB_iff]
  intro i hi e
  rw [Nat.and_zero] at e
  have h := maskB_bit (hg i hi) ((nth xs i).1.toNat)
  have hb := good_bd (hg i hi)
  rw [← e, Nat.zero_testBit, Int.toNat_of_nonneg hb.1] at h
  simp [hasB] at h
def loopG {α : Type} (f : Nat → List α) (p : Nat → Bool) (a : Nat) : Nat → List α
  | 0 => []
  | m + 1 => loopG f p a m ++ (if a ≤ m ∧ p m = true then f m else [])
theorem loopG_mem {α : Type} {f : Nat → List α} {p : Nat → Bool} {a : Nat} {l : α} : ∀ {m : Nat}, l ∈ loopG f p a m ↔ ∃ i, a ≤ i ∧ i < m ∧ p i = true ∧ l ∈ f i := by
  intro m
  induction m with
  | zero => simp [loopG]
  | succ m ih =>
    rw [loopG, List.mem_append, ih]
    constructor
    · rintro (⟨i, h1, h2, h3, h4⟩ | h)
      · exact ⟨i, h1, by omega, h3, h4⟩
      · by_cases e : a ≤ m ∧ p m = true
        · rw [if_pos e] at h; exact ⟨m, e.1, by omega, e.2, h⟩
        · rw [if_neg e] at h; simp at h
    · rintro ⟨i, h1, h2, h3, h4⟩
      by_cases e : i = m
      · subst e; right; rw [if_pos ⟨h1, h3⟩]; exact h4
      · exact .inl ⟨i, h1, by omega, h3, h4⟩
theorem loopG_nil {α : Type} (f : Nat → List α) (p : Nat → Bool) (a : Nat) : ∀ m, m ≤ a → loopG f p a m = [] := by
  intro m
  induction m with
  | zero => intro _; rfl
  | succ m ih => intro h; rw [loopG, ih (by omega), if_neg (by omega)]; rfl
theorem loopG_pair {α : Type} {f : Nat → List α} {p : Nat → Bool} {a : Nat} {R : α → α → Prop} : ∀ m, (∀ i, a ≤ i → i < m → p i = true → (f i).Pairwise R) → (∀ i j, a ≤ i → i < j → j < m → p i = true → p j = true → ∀ x, x ∈ f i → ∀ y, y ∈ f j → R x y) → (loopG f p a m).Pairwise R := by
  intro m
  induction m with
  | zero => intro _ _; exact List.Pairwise.nil
  | succ m ih =>
    intro h1 h2
    rw [loopG, List.pairwise_append]
    refine ⟨ih (fun i a1 a2 a3 => h1 i a1 (by omega) a3) (fun i j a1 a2 a3 => h2 i j a1 a2 (by omega)), ?_, ?_⟩
    · by_cases e : a ≤ m ∧ p m = true
      · rw [if_pos e]; exact h1 m e.1 (by omega) e.2
      · rw [if_neg e]; exact List.Pairwise.nil
    · intro x hx y hy
      by_cases e : a ≤ m ∧ p m = true
      · rw [if_pos e] at hy
        obtain ⟨i, b1, b2, b3, b4⟩ := loopG_mem.1 hx
        exact h2 i m b1 b2 (by omega) b3 e.2 x b4 y hy
      · rw [if_neg e] at hy; simp at hy
/-- the independent sets that go on from one, a set ahead of those that go on from it -/
noncomputable def preM (xs : List Blk) (v : Nat) : Nat → Nat → Nat → List Nat
  | 0, m, _ => [m]
  | d + 1, m, p => m :: loopG (fun q => preM xs v d (m ||| 2 ^ q) (q + 1)) (fun q => indB xs (m ||| 2 ^ q)) p v
def bstM (b m : Nat) : Nat := if onesF 15 b < onesF 15 m then m else b
def mosM (b : Nat) (L : List Nat) : Nat := L.foldl bstM b
theorem mosM_app (b : Nat) (L M : List Nat) : mosM b (L ++ M) = mosM (mosM b L) M := by simp [mosM]
theorem mosM_cons (b l : Nat) (M : List Nat) : mosM b (l :: M) = mosM (bstM b l) M := rfl
theorem mosM_nil (b : Nat) : mosM b [] = b := rfl
theorem mosM_stay {b : Nat} : ∀ {L : List Nat}, (∀ l ∈ L, onesF 15 l ≤ onesF 15 b) → mosM b L = b := by
  intro L
  induction L with
  | nil => intro _; rfl
  | cons l L ih =>
    intro h
    have h1 := h l (by simp)
    have : bstM b l = b := by unfold bstM; rw [if_neg (by omega)]
    rw [mosM_cons, this, ih (fun l hl => h l (by simp [hl]))]
theorem mosM_mem : ∀ (L : List Nat) (b : Nat), mosM b L = b ∨ mosM b L ∈ L := by
  intro L
  induction L with
  | nil => intro b; exact .inl rfl
  | cons l L ih =>
    intro b
    rw [mosM_cons]
    rcases ih (bstM b l) with h | h
    · rw [h]; unfold bstM; split
      · right; simp
      · left; rfl
    · right; simp [h]
theorem mosM_up : ∀ (L : List Nat) (b : Nat), mosM b L = b ∨ onesF 15 b < onesF 15 (mosM b L) := by
  intro L
  induction L with
  | nil => intro b; exact .inl rfl
  | cons l L ih =>
    intro b
    rw [mosM_cons]
    by_cases h : onesF 15 b < onesF 15 l
    · have e : bstM b l = l := by unfold bstM; rw [if_pos h]
      rw [e]
      rcases ih l with h2 | h2
      · rw [h2]; exact .inr h
      · exact .inr (by omega)
    · have e : bstM b l = b := by unfold bstM; rw [if_neg h]
      rw [e]; exact ih b
/-- the first one of the greatest ones -/
theorem mosM_spec {R : Nat → Nat → Prop} : ∀ (L : List Nat) (b : Nat), (∀ t ∈ L, R b t) → L.Pairwise R → ∀ t, t = b ∨ t ∈ L → onesF 15 t < onesF 15 (mosM b L) ∨ onesF 15 t = onesF 15 (mosM b L) ∧ (t = mosM b L ∨ R (mosM b L) t) := by
  intro L
  induction L with
  | nil => intro b _ _ t ht; rcases ht with rfl | ht
           · exact .inr ⟨rfl, .inl rfl⟩
           · simp at ht
  | cons l L ih =>
    intro b hb hp t ht
    rw [List.pairwise_cons] at hp
    rw [mosM_cons]
    by_cases hlt : onesF 15 b < onesF 15 l
    · have e : bstM b l = l := by unfold bstM; rw [if_pos hlt]
      rw [e]
      rcases ht with rfl | ht
      · have := ih l hp.1 hp.2 l (.inl rfl)
        omega
      · rw [List.mem_cons] at ht
        exact ih l hp.1 hp.2 t ht
    · have e : bstM b l = b := by unfold bstM; rw [if_neg hlt]
      rw [e]
      have hb' : ∀ t ∈ L, R b t := fun t h => hb t (by simp [h])
      rcases ht with rfl | ht
      · exact ih t hb' hp.2 t (.inl rfl)
      · rw [List.mem_cons] at ht
        rcases ht with rfl | ht
        · rcases mosM_up L b with h3 | h3
          · rw [h3]
            by_cases h4 : onesF 15 t = onesF 15 b
            · exact .inr ⟨h4, .inr (hb t (by simp))⟩
            · exact .inl (by omega)
          · exact .inl (by omega)
        · exact ih b hb' hp.2 t (.inr ht)

theorem ones_or (m q : Nat) : onesF 15 (m ||| 2 ^ q) ≤ onesF 15 m + 1 := by
  rw [ones_cnt, ones_cnt]
  have key : ∀ n, cntF (fun j => (m ||| 2 ^ q).testBit j) n ≤ cntF (fun j => m.testBit j) n + (if q < n then 1 else 0) := by
    intro n
    induction n with
    | zero => simp [cntF]
    | succ n ih =>
      have hb : (m ||| 2 ^ q).testBit n = (m.testBit n || decide (q = n)) := by rw [Nat.testBit_or, Nat.testBit_two_pow]
      rw [cntF, cntF, hb]
      generalize cntF (fun j => (m ||| 2 ^ q).testBit j) n = X at *
      generalize cntF (fun j => m.testBit j) n = Y at *
      generalize m.testBit n = a
      by_cases e : q = n
      · rw [if_neg (by omega : ¬ q < n)] at ih
        rw [if_pos (by omega : q < n + 1)]
        have e2 : decide (q = n) = true := by simpa using e
        rw [e2, Bool.or_true]
        cases a <;> simp <;> omega
      · have e2 : decide (q = n) = false := by simpa using e
        rw [e2, Bool.or_false]
        by_cases h : q < n
        · rw [if_pos h] at ih; rw [if_pos (by omega : q < n + 1)]; cases a <;> simp <;> omega
        · rw [if_neg h] at ih; rw [if_neg (by omega : ¬ q < n + 1)]; cases a <;> simp <;> omega
  have := key 15
  split at this <;> omega
theorem pre_bd {xs : List Blk} {v : Nat} : ∀ d m p l, p ≤ v → l ∈ preM xs v d m p → onesF 15 l ≤ onesF 15 m + (v - p) := by
  intro d
  induction d with
  | zero => intro m p l _ h; rw [preM, List.mem_singleton] at h; subst h; omega
  | succ d ih =>
    intro m p l hp h
    rw [preM, List.mem_cons] at h
    rcases h with rfl | h
    · omega
    · obtain ⟨q, h1, h2, h3, h4⟩ := loopG_mem.1 h
      have h5 := ih _ _ l (by omega) h4
      have h6 := ones_or m q
      omega
/-- the rounds from q on give nothing better -/
theorem pre_stop {f : Nat → List Nat} {p : Nat → Bool} {a i b c : Nat} (e : mosM b (loopG f p a i) = c) : ∀ n, i ≤ n → (∀ j, i ≤ j → j < n → a ≤ j → p j = true → ∀ l ∈ f j, onesF 15 l ≤ onesF 15 c) → mosM b (loopG f p a n) = c := by
  intro n
  induction n with
  | zero => intro hn _; obtain rfl : i = 0 := by omega
            exact e
  | succ n ih =>
    intro hn h
    by_cases hin : i = n + 1
    · subst hin; exact e
    · rw [loopG, mosM_app, ih (by omega) (fun j h1 h2 => h j h1 (by omega))]
      by_cases hc : a ≤ n ∧ p n = true
      · rw [if_pos hc]; exact mosM_stay (h n (by omega) (by omega) hc.1 hc.2)
      · rw [if_neg hc]; rfl
theorem bit_or_pow (m q j : Nat) : (m ||| 2 ^ q).testBit j = (m.testBit j || decide (q = j)) := by rw [Nat.testBit_or, Nat.testBit_two_pow]
theorem high_bit {m p j : Nat} (h : m < 2 ^ p) (hj : p ≤ j) : m.testBit j = false := Nat.testBit_lt_two_pow (Nat.lt_of_lt_of_le h (Nat.pow_le_pow_right (by omega) hj))
theorem or_pow_lt {m p q : Nat} (h : m < 2 ^ p) (hq : p ≤ q) : m ||| 2 ^ q < 2 ^ (q + 1) :=
  Nat.or_lt_two_pow (Nat.lt_of_lt_of_le h (Nat.pow_le_pow_right (by omega) (by omega))) (Nat.pow_lt_pow_right (by omega) (by omega))
theorem pts_or {m q : Nat} (h : m < 2 ^ q) (hq : q < 15) : ptsN (m ||| 2 ^ q) 15 = ptsN m 15 ++ [(q : Int)] := by
  have h1 : ∀ k, k ≤ q → ptsN (m ||| 2 ^ q) k = ptsN m k := by
    intro k
    induction k with
    | zero => intro _; rfl
    | succ k ih =>
      intro hk
      have : (m ||| 2 ^ q).testBit k = m.testBit k := by rw [bit_or_pow]; have : ¬ q = k := by omega
                                                         simp [this]
      rw [ptsN, ptsN, ih (by omega), this]
  have h2 : ∀ k, ptsN (m ||| 2 ^ q) (q + 1 + k) = ptsN m (q + 1 + k) ++ [(q : Int)] := by
    intro k
    induction k with
    | zero =>
      have e1 : (m ||| 2 ^ q).testBit q = true := by rw [bit_or_pow]; simp
      have e2 : m.testBit q = false := high_bit h (Nat.le_refl _)
      rw [Nat.add_zero, ptsN, ptsN, h1 q (Nat.le_refl _), e1, e2]; simp
    | succ k ih =>
      have e1 : (m ||| 2 ^ q).testBit (q + 1 + k) = false := by
        rw [bit_or_pow, high_bit h (by omega)]; have : ¬ q = q + 1 + k := by omega
        simp [this]
      have e2 : m.testBit (q + 1 + k) = false := high_bit h (by omega)
      rw [← Nat.add_assoc, ptsN, ptsN, e1, e2, ih]; simp
  have := h2 (15 - (q + 1))
  have e : q + 1 + (15 - (q + 1)) = 15 := by omega
  rwa [e] at this
theorem pre_pts {xs : List Blk} {v : Nat} (hv : v ≤ 15) : ∀ d m p l, m < 2 ^ p → l ∈ preM xs v d m p → ∃ A, ptsN l 15 = ptsN m 15 ++ A := by
  intro d
  induction d with
  | zero => intro m p l _ h; rw [preM, List.mem_singleton] at h; subst h; exact ⟨[], by simp⟩
  | succ d ih =>
    intro m p l hm h
    rw [preM, List.mem_cons] at h
    rcases h with rfl | h
    · exact ⟨[], by simp⟩
    · obtain ⟨q, h1, h2, h3, h4⟩ := loopG_mem.1 h
      obtain ⟨A, hA⟩ := ih _ _ l (or_pow_lt hm h1) h4
      rw [pts_or (Nat.lt_of_lt_of_le hm (Nat.pow_le_pow_right (by omega) h1)) (by omega)] at hA
      exact ⟨_, by rw [hA, List.append_assoc]⟩
theorem cmpL_pre : ∀ L A B, cmpL (L ++ A) (L ++ B) = cmpL A B := by
  intro L
  induction L with
  | nil => intro A B; rfl
  | cons x L ih => intro A B; rw [List.cons_append, List.cons_append, cmpL, if_neg (by omega), if_neg (by omega), ih]
theorem cmpL_self (L : List Int) : cmpL L L = 0 := by
  induction L with
  | nil => rfl
  | cons x L ih => rw [cmpL, if_neg (by omega), if_neg (by omega), ih]
theorem cmpL_trans : ∀ {A B C : List Int}, cmpL A B < 0 → cmpL B C < 0 → cmpL A C < 0 := by
  intro A
  induction A with
  | nil =>
    intro B C h1 h2
    cases C with
    | nil => cases B <;> simp [cmpL] at h1 h2
    | cons z C => simp [cmpL]
  | cons x A ih =>
    intro B C h1 h2
    cases B with
    | nil => simp [cmpL] at h1
    | cons y B =>
      cases C with
      | nil => simp [cmpL] at h2
      | cons z C =>
        rw [cmpL] at h1 h2 ⊢
        by_cases e1 : x < y
        · by_cases e2 : y < z
          · rw [if_pos (by omega)]; omega
          · rw [if_neg e2] at h2
            by_cases e3 : z < y
            · rw [if_pos e3] at h2; omega
            · rw [if_pos (by omega)]; omega
        · rw [if_neg e1] at h1
          by_cases e3 : y < x
          · rw [if_pos e3] at h1; omega
          · rw [if_neg e3] at h1
            obtain rfl : x = y := by omega
            by_cases e2 : x < z
            · rw [if_pos e2]; omega
            · rw [if_neg e2] at h2 ⊢
              by_cases e4 : z < x
              · rw [if_pos e4] at h2; omega
              · rw [if_neg e4] at h2 ⊢; exact ih h1 h2
/-- before, by the order of lists -/
def ordM (a b : Nat) : Prop := cmpL (ptsN a 15) (ptsN b 15) < 0
theorem pre_pair {xs : List Blk} {v : Nat} (hv : v ≤ 15) : ∀ d m p, m < 2 ^ p → (preM xs v d m p).Pairwise ordM := by
  intro d
  induction d with
  | zero => intro m p _; rw [preM]; exact List.pairwise_singleton _ _
  | succ d ih =>
    intro m p hm
    have hq : ∀ q, p ≤ q → q < v → ∀ l, l ∈ preM xs v d (m ||| 2 ^ q) (q + 1) → ∃ A, ptsN l 15 = ptsN m 15 ++ ((q : Int) :: A) := by
      intro q h1 h2 l hl
      obtain ⟨A, hA⟩ := pre_pts hv d _ _ l (or_pow_lt hm h1) hl
      rw [pts_or (Nat.lt_of_lt_of_le hm (Nat.pow_le_pow_right (by omega) h1)) (by omega)] at hA
      exact ⟨A, by rw [hA]; simp⟩
    rw [preM, List.pairwise_cons]
    refine ⟨fun l hl => ?_, loopG_pair v (fun i h1 h2 h3 => ih _ _ (or_pow_lt hm h1)) (fun i j h1 h2 h3 h4 h5 x hx y hy => ?_)⟩
    · obtain ⟨q, h1, h2, h3, h4⟩ := loopG_mem.1 hl
      obtain ⟨A, hA⟩ := hq q h1 h2 l h4
      unfold ordM
      rw [hA]
      have := cmpL_pre (ptsN m 15) [] ((q : Int) :: A)
      rw [List.append_nil] at this
      rw [this]; simp [cmpL]
    · obtain ⟨A, hA⟩ := hq i h1 (by omega) x hx
      obtain ⟨B, hB⟩ := hq j (by omega) h3 y hy
      unfold ordM
      rw [hA, hB, cmpL_pre, cmpL, if_pos (by omega)]; omega
theorem pre_in {xs : List Blk} {v : Nat} : ∀ d m p s, v ≤ p + d → m < 2 ^ p → s < 2 ^ v → indB xs s = true → (∀ j, j < p → s.testBit j = m.testBit j) → s ∈ preM xs v d m p := by
  intro d
  induction d with
  | zero =>
    intro m p s hd hm hs hi hb
    rw [preM, List.mem_singleton]
    apply Nat.eq_of_testBit_eq
    intro j
    by_cases hj : j < p
    · exact hb j hj
    · rw [high_bit hs (by omega), high_bit hm (by omega)]
  | succ d ih =>
    intro m p s hd hm hs hi hb
    rw [preM, List.mem_cons]
    by_cases e : s = m
    · exact .inl e
    · right
      rcases first_of (P := fun j => decide (p ≤ j) && s.testBit j) v with h | ⟨q, h1, h2, h3⟩
      · exfalso
        apply e
        apply Nat.eq_of_testBit_eq
        intro j
        by_cases hj : j < p
        · exact hb j hj
        · rw [high_bit hm (by omega)]
          by_cases hjv : j < v
          · have := h j hjv
            have h4 : decide (p ≤ j) = true := by simp; omega
            simp only [h4, Bool.true_and] at this; exact this
          · exact high_bit hs (by omega)
      · simp only [Bool.and_eq_true, decide_eq_true_eq] at h2
        have hbits : ∀ j, j < q + 1 → s.testBit j = (m ||| 2 ^ q).testBit j := by
          intro j hj
          rw [bit_or_pow]
          by_cases e1 : j = q
          · subst e1; rw [h2.2]; simp
          · have : ¬ q = j := fun h => e1 h.symm
            simp only [this, decide_false, Bool.or_false]
            by_cases e2 : j < p
            · exact hb j e2
            · rw [high_bit hm (by omega)]
              have h4 := h3 j (by omega)
              have h5 : decide (p ≤ j) = true := by simp; omega
              simp only [h5, Bool.true_and] at h4; exact h4
        have hlt := or_pow_lt hm h2.1
        refine loopG_mem.2 ⟨q, h2.1, h1, ind_sub hi (fun j hj => ?_), ih _ _ s (by omega) hlt hs hi hbits⟩
        by_cases e1 : j < q + 1
        · rw [hbits j e1]; exact hj
        · rw [high_bit hlt (by omega)] at hj; cases hj
theorem pre_ind {xs : List Blk} {v : Nat} : ∀ d m p l, m < 2 ^ p → m < 2 ^ v → indB xs m = true → l ∈ preM xs v d m p → l < 2 ^ v ∧ indB xs l = true := by
  intro d
  induction d with
  | zero => intro m p l _ h1 h2 h; rw [preM, List.mem_singleton] at h; subst h; exact ⟨h1, h2⟩
  | succ d ih =>
    intro m p l hm h1 h2 h
    rw [preM, List.mem_cons] at h
    rcases h with rfl | h
    · exact ⟨h1, h2⟩
    · obtain ⟨q, a1, a2, a3, a4⟩ := loopG_mem.1 h
      exact ih _ _ l (or_pow_lt hm a1) (Nat.or_lt_two_pow h1 (Nat.pow_lt_pow_right (by omega) a2)) a3 a4
theorem pre_lt {xs : List Blk} {v : Nat} (hv : v ≤ 15) : ∀ d m p l, m < 32768 → l ∈ preM xs v d m p → l < 32768 := by
  intro d
  induction d with
  | zero => intro m p l h1 h; rw [preM, List.mem_singleton] at h; subst h; exact h1
  | succ d ih =>
    intro m p l h1 h
    rw [preM, List.mem_cons] at h
    rcases h with rfl | h
    · exact h1
    · obtain ⟨q, a1, a2, a3, a4⟩ := loopG_mem.1 h
      refine ih _ _ l ?_ a4
      have : m ||| 2 ^ q < 2 ^ 15 := Nat.or_lt_two_pow (by simpa using h1) (Nat.pow_lt_pow_right (by omega) (by omega))
      simpa using this
theorem mos_lt {b : Nat} {L : List Nat} (hb : b < 32768) (h : ∀ l, l ∈ L → l < 32768) : mosM b L < 32768 := by
  rcases mosM_mem L b with e | e
  · rw [e]; exact hb
  · exact h _ e
theorem ones_le (m : Nat) : onesF 15 m ≤ 15 := by rw [ones_cnt]; exact cntF_le _ _
/-- the best one of the sets below k -/
def bestS (xs : List Blk) (k s : Nat) : Prop := s < k ∧ indB xs s = true ∧ ∀ t, t < k → indB xs t = true → onesF 15 t < onesF 15 s ∨ onesF 15 t = onesF 15 s ∧ ¬ cmpL (ptsN t 15) (ptsN s 15) < 0
theorem bestS_zero {xs : List Blk} (h : indB xs 0 = true) : bestS xs 1 0 := ⟨by omega, h, fun t ht _ => by
  obtain rfl : t = 0 := by omega
  exact .inr ⟨rfl, by rw [cmpL_self]; omega⟩⟩
theorem bestS_skip {xs : List Blk} {k s : Nat} (h : bestS xs k s) (hk : indB xs k = true → onesF 15 k < onesF 15 s ∨ onesF 15 k = onesF 15 s ∧ ¬ cmpL (ptsN k 15) (ptsN s 15) < 0) : bestS xs (k + 1) s :=
  ⟨by have := h.1; omega, h.2.1, fun t ht hi => by
    by_cases e : t = k
    · subst e; exact hk hi
    · exact h.2.2 t (by omega) hi⟩
theorem bestS_new {xs : List Blk} {k s : Nat} (h : bestS xs k s) (hi : indB xs k = true) (hk : onesF 15 s < onesF 15 k ∨ onesF 15 k = onesF 15 s ∧ cmpL (ptsN k 15) (ptsN s 15) < 0) : bestS xs (k + 1) k :=
  ⟨by omega, hi, fun t ht hit => by
    by_cases e : t = k
    · subst e; exact .inr ⟨rfl, by rw [cmpL_self]; omega⟩
    · rcases h.2.2 t (by omega) hit with h1 | ⟨h1, h2⟩
      · left; omega
      · rcases hk with h3 | ⟨h3, h4⟩
        · left; omega
        · exact .inr ⟨by omega, fun h5 => h2 (cmpL_trans h5 h4)⟩⟩
theorem best_is_pre {xs : List Blk} {v s : Nat} (hv : v ≤ 15) (h0 : indB xs 0 = true) (h : bestS xs (2 ^ v) s) : mosM 0 (preM xs v v 0 0) = s := by
  have hp := pre_pair (xs := xs) hv v 0 0 (by simp)
  have hin : ∀ t, t < 2 ^ v → indB xs t = true → t ∈ preM xs v v 0 0 := fun t h1 h2 => pre_in v 0 0 t (by omega) (by simp) h1 h2 (fun j hj => by omega)
  have hout : ∀ t, t ∈ preM xs v v 0 0 → t < 2 ^ v ∧ indB xs t = true := fun t ht => pre_ind v 0 0 t (by simp) (Nat.two_pow_pos v) h0 ht
  obtain ⟨L, hL⟩ : ∃ L, preM xs v v 0 0 = 0 :: L := by
    cases v with
    | zero => exact ⟨[], rfl⟩
    | succ v => exact ⟨_, rfl⟩
  have e0 : mosM 0 (preM xs v v 0 0) = mosM 0 L := by
    rw [hL, mosM_cons]
    have : bstM 0 0 = 0 := by unfold bstM; split <;> rfl
    rw [this]
  rw [hL] at hp hin hout
  rw [List.pairwise_cons] at hp
  have hsp := mosM_spec L 0 hp.1 hp.2
  rw [e0]
  generalize hM : mosM 0 L = M at *
  have hMin : M ∈ 0 :: L := by
    rcases mosM_mem L 0 with h1 | h1
    · rw [← hM, h1]; simp
    · rw [← hM]; simp [h1]
  have hMi := hout M hMin
  have h1 := h.2.2 M hMi.1 hMi.2
  have h2 := hsp s (by have := hin s h.1 h.2.1; rwa [List.mem_cons] at this)
  rcases h2 with h2 | ⟨h2, h3⟩
  · omega
  · rcases h3 with h3 | h3
    · exact h3.symm
    · rcases h1 with h1 | ⟨h1, h4⟩
      · omega
      · exact absurd h3 h4

end Go.Proofs.Ytbknpflbafjblaa

/- Contracts of codes of point sets, of closed sets and of the points of a set; conditions: stated in each. -/
namespace Go.Proofs.Ytbknpflbafjblaa
open Go.RowKit
set_option maxHeartbeats 1000000
set_option maxRecDepth 100000
set_option linter.unusedSimpArgs false
set_option linter.unusedVariables false

/-- the code of a system and of a set of points -/
noncomputable def spnCode (v : Int) (xs : List Blk) (ls : List Int) : Int := if isSysB v xs = true then (if risesB ls v = true then 0 else 2) else 1
theorem spnCode_zero {v : Int} {xs : List Blk} {ls : List Int} (h : spnCode v xs ls = 0) : isSysB v xs = true ∧ risesB ls v = true := by
  unfold spnCode at h; (repeat' split at h) <;> simp_all
theorem spn_pt {v : Int} {xs : List Blk} {ls : List Int} (h : ptCode v xs ls ≠ 0) : spnCode v xs ls = ptCode v xs ls := by
  unfold spnCode ptCode at *
  by_cases hs : isSysB v xs = true
  · rw [if_pos hs] at h
    rw [if_pos hs, if_pos hs]
    by_cases ha : allInB ls (v - 1) = true
    · rw [if_pos ha] at h; exact absurd rfl h
    · rw [if_neg ha, if_neg]
      intro hr
      exact ha (allInB_iff.2 fun k hk => (risesB_iff.1 hr k hk).1)
  · rw [if_neg hs, if_neg hs]

theorem l01Set_any (v : Int) (A : Option Addr) (c : Nat) (xs : List Blk) (B : Option Addr) (d : Nat) (ls : List Int) (w : World) (hA : Bl w A xs) (hl : xs.length ≤ 1048576) (hB : Il w B ls) (hlb : ls.length ≤ 1048576) :
    Calls Try.prog 67 #[.agg #[.int .i64 v, .slice A xs.length c], .slice B ls.length d] w fun e w' => e = .returned (.int .i64 (spnCode v xs ls)) ∧ Below w.heap.size w w' := by
  have HB := Lib.hid hB; clear hB
  by_cases hp : ptCode v xs ls = 0
  · have HP : Hid (isSysB v xs = true ∧ ∀ j, j < ls.length → 0 ≤ nthI ls j ∧ nthI ls j ≤ v - 1) := by
      unfold ptCode at hp
      by_cases hs : isSysB v xs = true
      · rw [if_pos hs] at hp
        by_cases ha : allInB ls (v - 1) = true
        · exact ⟨hs, allInB_iff.1 ha⟩
        · rw [if_neg ha] at hp; cases hp
      · rw [if_neg hs] at hp; cases hp
    have HE : Hid (spnCode v xs ls = if risesB ls v = true then 0 else 2) := by unfold Hid spnCode; rw [if_pos HP.out.1]
    generalize spnCode v xs ls = R at *
    have HA := Lib.hid hA; clear hA; have HR := Lib.hid (Row.box w 30 (.int .i64 v) (.slice A xs.length c)); have HW := Lib.hid (Since.refl w); go_enter Try.func67, Try.ntmps67; go_wp2_with fail; replace HA := Lib.hid (HA.out.below (below_alloc _ (.cells #[.int .i64 v, .slice A xs.length c] 30))); replace HW := Lib.hid (HW.out.below (below_alloc _ (.cells #[.int .i64 v, .slice A xs.length c] 30))); replace HB := Lib.hid (HB.out.below (below_alloc _ (.cells #[.int .i64 v, .slice A xs.length c] 30)))
    refine (l01Points_any v A c xs B d ls _ HA.out hl HB.out hlb).mono ?_; rw [hp]; rintro e w_ ⟨rfl, hb⟩; replace HB := Lib.hid (HB.out.below hb); replace HW := Lib.hid (HW.out.below hb); replace HR := Lib.hid (HR.out.below hb); clear hb; (try clear c0 c1); obtain ⟨c0, c1⟩ := HR.out.c2
    go_wp2
    clear c0 c1
    go_loopw [6] (fun i wr => ∃ k : Nat, (k ≤ ls.length ∨ k = 1) ∧ 1 ≤ k ∧ i = .int .i64 k ∧ Below w_.heap.size w_ wr ∧ Hid (∀ j, j < k → j < ls.length → 0 < j → nthI ls (j - 1) < nthI ls j)) (fun i _ => ls.length - (intOf i).toNat)
    case atStart => exact ⟨1, .inr rfl, by omega, rfl, Below.refl _ _, fun j h1 h2 h3 => by omega⟩
    case round =>
      obtain ⟨k, hk, hk0, rfl, hb, HC⟩ := hrel
      by_cases hlt : k < ls.length
      · obtain ⟨b1, o1, hA1, hb1, p0⟩ := (HB.out.below hb).at_ hlt
        subst hA1
        obtain ⟨b2, o2, hA2, hb2, q0⟩ := (HB.out.below hb).at_ (k := k - 1) (by omega)
        simp only [Option.some.injEq, Addr.mk.injEq] at hA2
        obtain ⟨rfl, rfl, -⟩ := hA2
        by_cases hlo : nthI ls (k - 1) < nthI ls k
        · have hlo' : decide (nthI ls k ≤ nthI ls (k - 1)) = false := by simpa using hlo
          have HLO := Lib.hid hlo
          clear hlo
          go_wp2
          go_quiet (fail)
          go_wp2
          go_roundw
          case rel =>
            refine ⟨k + 1, .inl (by omega), by omega, by go_num, below_drewN hb _, fun j hj h2 h3 => ?_⟩
            by_cases hjk : j < k
            · exact HC.out j hjk h2 h3
            · obtain rfl : j = k := by omega
              exact HLO.out
          case measure => simp [intOf]; omega
        · have hlo' : decide (nthI ls k ≤ nthI ls (k - 1)) = true := by simpa using hlo
          have HLO := Lib.hid hlo
          clear hlo
          go_wp2
          go_quiet (fail)
          go_wp2
          go_ret
          refine ⟨ret_int ?_, HW.out.below (below_drewN hb _)⟩
          rw [HE.out, if_neg]
          exact fun h => absurd ((risesB_iff.1 h k hlt).2 (by omega)) (by have := HLO.out; omega)
      · have hle : (ls.length : Int) ≤ (k : Int) := by omega
        go_wp2
        go_ret
        refine ⟨ret_int ?_, HW.out.below hb⟩
        rw [HE.out, if_pos]
        exact risesB_iff.2 fun j hj => ⟨HP.out.2 j hj, fun h0 => HC.out j (by omega) hj h0⟩
  · have HE : Hid (spnCode v xs ls = ptCode v xs ls) := spn_pt hp
    have hne : (ptCode v xs ls != 0) = true := by simpa using hp
    rw [HE.out]
    obtain ⟨R, hR⟩ : ∃ R, ptCode v xs ls = R := ⟨_, rfl⟩
    rw [hR] at hne ⊢
    clear hp HE
    have HA := Lib.hid hA; clear hA; have HR := Lib.hid (Row.box w 30 (.int .i64 v) (.slice A xs.length c)); have HW := Lib.hid (Since.refl w); go_enter Try.func67, Try.ntmps67; go_wp2_with fail; replace HA := Lib.hid (HA.out.below (below_alloc _ (.cells #[.int .i64 v, .slice A xs.length c] 30))); replace HW := Lib.hid (HW.out.below (below_alloc _ (.cells #[.int .i64 v, .slice A xs.length c] 30))); replace HB := Lib.hid (HB.out.below (below_alloc _ (.cells #[.int .i64 v, .slice A xs.length c] 30)))
    refine (l01Points_any v A c xs B d ls _ HA.out hl HB.out hlb).mono ?_; rw [hR]; rintro e w_ ⟨rfl, hb⟩; replace HW := Lib.hid (HW.out.below hb); clear hb
    go_wp2
    go_ret
    exact ⟨rfl, HW.out⟩

theorem l07Points_any (s : Nat) (w : World) (hs : s < 32768) :
    Calls Try.prog 79 #[.int .i64 (s : Int)] w fun e w' => ∃ u, e = .returned u ∧ Ro w' w.heap.size u (ptsN s 15) ∧ Below w.heap.size w w' := by
  obtain ⟨ni0, hni, hni0, hni1, hni2⟩ := info_parts infoInt'
  have HB0 := Lib.hid (below_alloc w (.cells #[] 2))
  have HU0 : Hid (Ro (w.alloc (.cells #[] 2)) w.heap.size (.slice (some ⟨w.heap.size, 0, none⟩) 0 0) []) := World.ownsRow_made (base := w.heap.size) (e := 2) (size := 1) w #[] 0 (by omega) (by unfold maxLen; omega) (by simp)
  go_enter Try.func79, Try.ntmps79
  go_wp2
  generalize w.alloc (.cells #[] 2) = W at *
  go_loopw [3, 4] (fun u i wr => ∃ k : Nat, k ≤ 15 ∧ i = .int .i64 k ∧ Hid (Below w.heap.size w wr ∧ Ro wr w.heap.size u (ptsN s k))) (fun _ i _ => 15 - (intOf i).toNat)
  case atStart => exact ⟨0, by omega, rfl, HB0.out, HU0.out⟩
  case round =>
    obtain ⟨k, hk, rfl, HC⟩ := hrel
    have HN : Hid (ptsN s (k + 1) = ptsN s k ++ (if s.testBit k = true then [(k : Int)] else [])) := rfl
    have hll := ptsN_len s k
    by_cases hlt : k < 15
    · have hq : (bits .and .i64 ((s : Int) / 2 ^ k) 1 == 1) = s.testBit k := by
        have e1 : (s : Int) / 2 ^ k = ((s / 2 ^ k : Nat) : Int) := by push_cast; rfl
        have hd : s / 2 ^ k < 4611686018427387904 := Nat.lt_of_le_of_lt (Nat.div_le_self _ _) (by omega)
        have e2 := bits_and_nat (s / 2 ^ k) 1 hd (by omega)
        rw [e1]
        show (bits BinOp.and IntKind.i64 ((s / 2 ^ k : Nat) : Int) ((1 : Nat) : Int) == 1) = _
        rw [e2, Nat.and_one_is_mod, Nat.testBit_eq_decide_div_mod_eq]
        rw [Bool.eq_iff_iff, beq_iff_eq, decide_eq_true_eq]
        omega
      cases hb : s.testBit k
      · rw [hb] at hq
        go_wp2
        go_roundw
        case rel => exact ⟨k + 1, by omega, by go_num, HC.out.1, by rw [HN.out, hb, if_neg (by simp), List.append_nil]; exact HC.out.2⟩
        case measure => simp [intOf]; omega
      · rw [hb] at hq
        have HB2 := Lib.hid HC.out.1
        have HO : Hid (wr.ownsRow w.heap.size 2 1 u3 (ptsN s k).length ((ptsN s k).map (Value.int .i64))) := HC.out.2
        have hbw_ := HB2.out.size; go_wp2_with (at_builtin; refine wpList_append_own _ rfl _ _ 42 rfl (w).heap.size 2 ni0 (.int .i64 0) 1 8 Try.underlying42 hni hni0 hni1 hni2 rfl (by decide) _ _ _ rfl (HO.out.alloc _) ⟨(wr).heap.size, 0, none⟩ 1 1 [.int .i64 (k)] rfl rfl (cells_new _ _ _) (by simp [Value.oneCell']) (by unfold maxLen; omega) (by omega) (by simp; omega) ?_; intro v2 w2 hown2 hg2 _); have HO2 := Lib.hid hown2; have HB3 : Hid (Below (w).heap.size (w) w2) := (HB2.out.alloc HB2.out.size _).grown hg2 (by simp; omega) (own_block HO.out); clear hown2 hg2 hbw_
        go_wp2
        go_roundw
        case rel => exact ⟨k + 1, by omega, by go_num, HB3.out, by rw [HN.out, if_pos hb]; have h2 := HO2.out; unfold Ro; simpa using h2⟩
        case measure => simp [intOf]; omega
    · obtain rfl : k = 15 := by omega
      go_wp2
      go_ret
      exact ⟨_, rfl, HC.out.2, HC.out.1⟩

theorem implSetCode_any (v : Int) (A : Option Addr) (c : Nat) (xs : List Blk) (B : Option Addr) (d : Nat) (ls : List Int) (w : World) (hA : Bl w A xs) (hl : xs.length ≤ 1048576) (hB : Il w B ls) (hlb : ls.length ≤ 1048576) :
    Calls Try.prog 68 #[.agg #[.int .i64 v, .slice A xs.length c], .slice B ls.length d] w fun e w' => e = .returned (.int .i64 (spnCode v xs ls)) ∧ Below w.heap.size w w' := by
  have HB := Lib.hid hB; clear hB
  cases hs : isSysB v xs
  · have HA := Lib.hid hA; clear hA; have HR := Lib.hid (Row.box w 30 (.int .i64 v) (.slice A xs.length c)); have HW := Lib.hid (Since.refl w); go_enter Try.func68, Try.ntmps68; go_wp2_with fail; replace HA := Lib.hid (HA.out.below (below_alloc _ (.cells #[.int .i64 v, .slice A xs.length c] 30))); replace HW := Lib.hid (HW.out.below (below_alloc _ (.cells #[.int .i64 v, .slice A xs.length c] 30)))
    refine (IsSystem_any v A c xs _ HA.out hl).mono ?_; rw [hs]; rintro e w_ ⟨rfl, hb⟩; replace HW := Lib.hid (HW.out.below hb); clear hb
    go_wp2
    go_ret
    exact ⟨ret_int (by simp [spnCode, hs]), HW.out⟩
  · have hv := (isSysB_iff.1 hs).1
    have HE : Hid (spnCode v xs ls = if risesB ls v = true then 0 else 2) := by unfold Hid spnCode; rw [if_pos hs]
    have HA := Lib.hid hA; clear hA; have HR := Lib.hid (Row.box w 30 (.int .i64 v) (.slice A xs.length c)); have HW := Lib.hid (Since.refl w); go_enter Try.func68, Try.ntmps68; go_wp2_with fail; replace HA := Lib.hid (HA.out.below (below_alloc _ (.cells #[.int .i64 v, .slice A xs.length c] 30))); replace HW := Lib.hid (HW.out.below (below_alloc _ (.cells #[.int .i64 v, .slice A xs.length c] 30))); replace HB := Lib.hid (HB.out.below (below_alloc _ (.cells #[.int .i64 v, .slice A xs.length c] 30)))
    refine (IsSystem_any v A c xs _ HA.out hl).mono ?_; rw [hs]; rintro e w_ ⟨rfl, hb⟩; replace HB := Lib.hid (HB.out.below hb); replace HW := Lib.hid (HW.out.below hb); replace HR := Lib.hid (HR.out.below hb); clear hb; (try clear c0 c1); obtain ⟨c0, c1⟩ := HR.out.c2
    have hlr := HR.out.lt
    go_wp2_with fail
    refine (rises_any B d ls v _ HB.out hlb (by omega) (by omega)).mono ?_
    cases hr : risesB ls v
    · rintro e w' ⟨rfl, rfl⟩
      go_wp2
      go_ret
      exact ⟨ret_int (by rw [HE.out, hr]; rfl), HW.out⟩
    · rintro e w' ⟨rfl, rfl⟩
      go_wp2
      go_ret
      exact ⟨ret_int (by rw [HE.out, hr]; rfl), HW.out⟩

end Go.Proofs.Ytbknpflbafjblaa

/- Contracts of the greatest independent sets, of the reference and of the program; conditions: stated in each. -/
namespace Go.Proofs.Ytbknpflbafjblaa
open Go.RowKit
set_option maxHeartbeats 1000000
set_option maxRecDepth 100000
set_option linter.unusedSimpArgs false
set_option linter.unusedVariables false

noncomputable def mosR (v : Int) (xs : List Blk) : List Int × Int := if isSysB v xs = true then (ptsN (mosM 0 (preM xs v.toNat v.toNat 0 0)) 15, 0) else ([], 1)
theorem mosR_bd (v : Int) (xs : List Blk) : (mosR v xs).1.length ≤ 15 := by
  unfold mosR
  split
  · exact ptsN_len _ _
  · simp
/-- how many of the first k blocks lie in a set -/
def insN (xs : List Blk) (s : Nat) : Nat → Nat
  | 0 => 0
  | k + 1 => insN xs s k + (if maskB (nth xs k) &&& s = maskB (nth xs k) then 1 else 0)
theorem insN_le (xs : List Blk) (s : Nat) : ∀ k, insN xs s k ≤ k := by
  intro k
  induction k with
  | zero => exact Nat.le_refl _
  | succ k ih => rw [insN]; split <;> omega
theorem ins_ind (xs : List Blk) (s : Nat) : ((insN xs s xs.length : Int) == 0) = indB xs s := by
  have key : ∀ k, insN xs s k = 0 ↔ ∀ i, i < k → maskB (nth xs i) &&& s ≠ maskB (nth xs i) := by
    intro k
    induction k with
    | zero => simp [insN]
    | succ k ih =>
      rw [insN]
      constructor
      · intro h i hi
        have h1 : insN xs s k = 0 := by omega
        by_cases e : i = k
        · subst e; intro e2; rw [if_pos e2] at h; omega
        · exact ih.1 h1 i (by omega)
      · intro h
        rw [ih.2 (fun i hi => h i (by omega)), if_neg (h k (by omega))]
  rw [Bool.eq_iff_iff, beq_iff_eq, indB_iff, ← key]
  omega

theorem l07Inside_any (v : Int) (A : Option Addr) (c : Nat) (xs : List Blk) (s : Nat) (w : World) (hA : Bl w A xs) (hl : xs.length ≤ 1048576) (hg : ∀ i, i < xs.length → goodB 15 (nth xs i) = true) (h15 : s < 32768) :
    Calls Try.prog 163 #[.agg #[.int .i64 v, .slice A xs.length c], .int .i64 (s : Int)] w fun e w' => e = .returned (.int .i64 (insN xs s xs.length : Nat)) ∧ Below w.heap.size w w' := by
  have HG := Lib.hid hg
  have HR := Lib.hid (Row.new w 30 #[.int .i64 v, .slice A xs.length c])
  have HW := Lib.hid (below_alloc w (.cells #[.int .i64 v, .slice A xs.length c] 30))
  have HA := Lib.hid (hA.below HW.out)
  have HST : Hid (∀ k, insN xs s (k + 1) = insN xs s k + (if maskB (nth xs k) &&& s = maskB (nth xs k) then 1 else 0)) := fun k => rfl
  have H0 : Hid (insN xs s 0 = 0) := rfl
  have HLE := Lib.hid (insN_le xs s)
  generalize insN xs s = F at *
  clear hA hg
  go_enter Try.func163, Try.ntmps163
  go_wp2
  generalize w.alloc (.cells #[.int .i64 v, .slice A xs.length c] 30) = W at *
  go_loopw [5, 6] (fun q i wr => ∃ k n : Nat, k ≤ xs.length ∧ n ≤ k ∧ i = .int .i64 k ∧ q = .int .i64 n ∧ Hid (Below W.heap.size W wr ∧ n = F k)) (fun _ i _ => xs.length - (intOf i).toNat)
  case atStart => exact ⟨0, 0, by omega, by omega, rfl, rfl, Below.refl _ _, H0.out.symm⟩
  case round =>
    obtain ⟨k, n, hk, hn, rfl, rfl, HC⟩ := hrel
    obtain ⟨c0, c1⟩ := (HR.out.below HC.out.1).c2
    have hlr := (HR.out.below HC.out.1).lt
    by_cases hlt : k < xs.length
    · obtain ⟨b1, o1, hA1, hb1, p0, p1, p2⟩ := (HA.out.below HC.out.1).at_ hlt
      subst hA1
      have hg := HG.out k hlt
      have hml := maskB_lt hg
      have hkl : (k : Int) < (xs.length : Int) := by omega
      go_wp2_with fail
      refine (l05Bits_any (nth xs k) _ hg).mono ?_
      rintro e w1 ⟨rfl, hb⟩
      have HB1 := Lib.hid (below_up HC.out.1 hb)
      clear hb hg p0 p1 p2 hb1 c0 c1
      have HSTk := Lib.hid (HST.out k)
      obtain ⟨M, hM⟩ : ∃ M, maskB (nth xs k) = M := ⟨_, rfl⟩
      rw [hM] at hml HSTk ⊢
      have hm2 : M < 32768 := by simpa using hml
      have hand := bits_and_nat M s (by omega) (by omega)
      clear hml hM
      by_cases h2 : M &&& s = M
      · have h3 : (((M &&& s : Nat) : Int) == (M : Int)) = true := by rw [h2]; simp
        have HS2 : Hid (F (k + 1) = n + 1) := by unfold Hid; rw [HSTk.out, if_pos h2, HC.out.2]
        clear h2
        go_wp2
        go_roundw
        case rel => exact ⟨k + 1, n + 1, by omega, by omega, by go_num, by go_num, HB1.out, HS2.out.symm⟩
        case measure => simp [intOf]; omega
      · have h3 : (((M &&& s : Nat) : Int) == (M : Int)) = false := by rw [beq_eq_false_iff_ne]; exact fun h => h2 (by omega)
        have HS2 : Hid (F (k + 1) = n) := by unfold Hid; rw [HSTk.out, if_neg h2, HC.out.2, Nat.add_zero]
        clear h2
        go_wp2
        go_roundw
        case rel => exact ⟨k + 1, n, by omega, by omega, by go_num, rfl, HB1.out, HS2.out.symm⟩
        case measure => simp [intOf]; omega
    · obtain rfl : k = xs.length := by omega
      go_wp2
      go_ret
      exact ⟨ret_int (by rw [HC.out.2]), below_up HW.out HC.out.1⟩

theorem l07Ind_any (v : Int) (A : Option Addr) (c : Nat) (xs : List Blk) (s : Nat) (w : World) (hA : Bl w A xs) (hl : xs.length ≤ 1048576) (hg : ∀ i, i < xs.length → goodB 15 (nth xs i) = true) (h15 : s < 32768) :
    Calls Try.prog 132 #[.agg #[.int .i64 v, .slice A xs.length c], .int .i64 (s : Int)] w fun e w' => e = .returned (.bool (indB xs s)) ∧ Below w.heap.size w w' := by
  have HG := Lib.hid hg
  have HW := Lib.hid (below_alloc w (.cells #[.int .i64 v, .slice A xs.length c] 30))
  have HA := Lib.hid (hA.below HW.out)
  have HI := Lib.hid (ins_ind xs s)
  clear hA hg
  go_enter Try.func132, Try.ntmps132
  go_wp2_with fail
  refine (l07Inside_any v A c xs s _ HA.out hl HG.out h15).mono ?_
  rintro e w1 ⟨rfl, hb⟩
  have HB1 := Lib.hid (below_up HW.out hb)
  clear hb
  go_wp2
  go_ret
  exact ⟨ret_bool HI.out, HB1.out⟩

theorem l07Most_any (n : Nat) (A : Option Addr) (c : Nat) (xs : List Blk) (hs : isSys n xs) : ∀ (d m b p : Nat) (z : Int) (w : World), z = (p : Int) → n ≤ p + d → p ≤ n → m < 32768 → b < 32768 → Bl w A xs →
    Calls Try.prog 80 #[.agg #[.int .i64 n, .slice A xs.length c], .int .i64 (m : Int), .int .i64 (b : Int), .int .i64 z] w fun e w' => e = .returned (.int .i64 (mosM b (preM xs n d m p) : Nat)) ∧ Below w.heap.size w w' := by
  intro d
  induction d with
  | zero =>
    intro m b p z w hz hd hp hm hb hA
    subst hz
    have hn := hs.1
    have HX := Lib.hid (below_alloc w (.cells #[.int .i64 n, .slice A xs.length c] 30))
    have HR := Lib.hid (Row.box w 30 (.int .i64 n) (.slice A xs.length c))
    obtain rfl : p = n := by omega
    clear hA hs
    have HPR : Hid (mosM b (preM xs p 0 m p) = if onesF 15 b < onesF 15 m then m else b) := rfl
    generalize mosM b (preM xs p 0 m p) = RES at *
    go_enter Try.func80, Try.ntmps80
    go_wp2_with fail
    refine (l05Ones_any m _ hm).mono ?_
    rintro e w1 ⟨rfl, hb1⟩
    have HB1 := Lib.hid hb1
    clear hb1
    go_wp2_with fail
    refine (l05Ones_any b _ hb).mono ?_
    rintro e w2 ⟨rfl, hb2⟩
    have HB2 := Lib.hid (below_up HB1.out hb2)
    clear hb2
    obtain ⟨Om, hOm⟩ : ∃ x, onesF 15 m = x := ⟨_, rfl⟩
    obtain ⟨Ob, hOb⟩ : ∃ x, onesF 15 b = x := ⟨_, rfl⟩
    rw [hOm, hOb] at HPR ⊢
    clear hOm hOb
    have HRR := Lib.hid (HR.out.below HB2.out)
    obtain ⟨c0, c1⟩ := HRR.out.c2
    have hlr := HRR.out.lt
    by_cases hlt : Ob < Om
    · have HE : Hid (RES = m) := by unfold Hid; rw [HPR.out, if_pos hlt]
      go_wp2
      clear c0 c1 hlr
      go_loopw [2, 9] (fun q i wr => i = .int .i64 p ∧ q = .int .i64 m ∧ Hid (Below w2.heap.size w2 wr)) (fun _ _ _ => 0)
      case atStart => exact ⟨rfl, rfl, Below.refl _ _⟩
      case round =>
        obtain ⟨rfl, rfl, HC⟩ := hrel
        obtain ⟨c0, c1⟩ := (HRR.out.below HC.out).c2
        have hlr := (HRR.out.below HC.out).lt
        go_wp2
        refine wp_region_ge_lit (by kernel_rfl) (by kernel_rfl) ?_; (repeat (go_big_quiet_step ((fail)))); refine wpQuiet_nil ?_
        rintro w3 ⟨x, rfl⟩
        go_wp2
        go_ret
        exact ⟨ret_int (by rw [HE.out]), below_up HX.out (below_up HB2.out (below_up HC.out (ge_below _ _)))⟩
    · have HE : Hid (RES = b) := by unfold Hid; rw [HPR.out, if_neg hlt]
      go_wp2
      clear c0 c1 hlr
      go_loopw [2, 9] (fun q i wr => i = .int .i64 p ∧ q = .int .i64 b ∧ Hid (Below w2.heap.size w2 wr)) (fun _ _ _ => 0)
      case atStart => exact ⟨rfl, rfl, Below.refl _ _⟩
      case round =>
        obtain ⟨rfl, rfl, HC⟩ := hrel
        obtain ⟨c0, c1⟩ := (HRR.out.below HC.out).c2
        have hlr := (HRR.out.below HC.out).lt
        go_wp2
        refine wp_region_ge_lit (by kernel_rfl) (by kernel_rfl) ?_; (repeat (go_big_quiet_step ((fail)))); refine wpQuiet_nil ?_
        rintro w3 ⟨x, rfl⟩
        go_wp2
        go_ret
        exact ⟨ret_int (by rw [HE.out]), below_up HX.out (below_up HB2.out (below_up HC.out (ge_below _ _)))⟩
  | succ d ih =>
    intro m b p z w hz hd hp hm hb hA
    subst hz
    have HIH := Lib.hid ih; clear ih
    have hn := hs.1
    have hl := hs.2.1
    have HG : Hid (∀ i, i < xs.length → goodB 15 (nth xs i) = true) := fun i hi => good_mono (hs.2.2.1 i hi).1 hs.1.2
    have HX := Lib.hid (below_alloc w (.cells #[.int .i64 n, .slice A xs.length c] 30))
    have HR := Lib.hid (Row.box w 30 (.int .i64 n) (.slice A xs.length c))
    have HA := Lib.hid (hA.below HX.out)
    clear hA hs
    have HPL : Hid (∀ q c0, q < 15 → c0 < 32768 → mosM c0 (preM xs n d (m ||| 2 ^ q) (q + 1)) < 32768) := by
      intro q c0 hq hc0
      refine mos_lt hc0 fun l hl => pre_lt (by omega) d _ _ l ?_ hl
      have : m ||| 2 ^ q < 2 ^ 15 := Nat.or_lt_two_pow (by simpa using hm) (Nat.pow_lt_pow_right (by omega) hq)
      simpa using this
    have HSTOP : Hid (∀ b0 k cc, mosM b0 (loopG (fun q => preM xs n d (m ||| 2 ^ q) (q + 1)) (fun q => indB xs (m ||| 2 ^ q)) p k) = cc → k ≤ n → onesF 15 m + n ≤ onesF 15 cc + k → mosM b0 (loopG (fun q => preM xs n d (m ||| 2 ^ q) (q + 1)) (fun q => indB xs (m ||| 2 ^ q)) p n) = cc) := by
      intro b0 k cc e hk hcc
      refine pre_stop e n hk fun j h1 h2 h3 h4 l hl => ?_
      have h5 := pre_bd d _ _ l (by omega) hl
      have h6 := ones_or m j
      omega
    have HPR : Hid (mosM b (preM xs n (d + 1) m p) = mosM (if onesF 15 b < onesF 15 m then m else b) (loopG (fun q => preM xs n d (m ||| 2 ^ q) (q + 1)) (fun q => indB xs (m ||| 2 ^ q)) p n)) := by unfold Hid; rw [preM, mosM_cons]; rfl
    have HNIL : Hid (loopG (fun q => preM xs n d (m ||| 2 ^ q) (q + 1)) (fun q => indB xs (m ||| 2 ^ q)) p p = []) := loopG_nil _ _ _ _ (Nat.le_refl _)
    have HST : Hid (∀ k, loopG (fun q => preM xs n d (m ||| 2 ^ q) (q + 1)) (fun q => indB xs (m ||| 2 ^ q)) p (k + 1) = loopG (fun q => preM xs n d (m ||| 2 ^ q) (q + 1)) (fun q => indB xs (m ||| 2 ^ q)) p k ++ (if p ≤ k ∧ indB xs (m ||| 2 ^ k) = true then preM xs n d (m ||| 2 ^ k) (k + 1) else [])) := fun k => rfl
    generalize mosM b (preM xs n (d + 1) m p) = RES at *
    generalize loopG (fun q => preM xs n d (m ||| 2 ^ q) (q + 1)) (fun q => indB xs (m ||| 2 ^ q)) p = S at *
    have hom := ones_le m
    go_enter Try.func80, Try.ntmps80
    go_wp2_with fail
    refine (l05Ones_any m _ hm).mono ?_
    rintro e w1 ⟨rfl, hb1⟩
    have HB1 := Lib.hid hb1
    clear hb1
    go_wp2_with fail
    refine (l05Ones_any b _ hb).mono ?_
    rintro e w2 ⟨rfl, hb2⟩
    have HB2 := Lib.hid (below_up HB1.out hb2)
    clear hb2
    obtain ⟨Om, hOm⟩ : ∃ x, onesF 15 m = x := ⟨_, rfl⟩
    obtain ⟨Ob, hOb⟩ : ∃ x, onesF 15 b = x := ⟨_, rfl⟩
    have HON : Hid (∀ W : World, Calls Try.prog 72 #[.int .i64 (m : Int)] W fun e w' => e = .returned (.int .i64 (Om : Int)) ∧ Below W.heap.size W w') := fun W => by
      have := l05Ones_any m W hm
      rwa [hOm] at this
    rw [hOm, hOb] at HPR
    rw [hOm] at hom HSTOP
    rw [hOm, hOb]
    clear hOm hOb
    have HRR := Lib.hid (HR.out.below HB2.out)
    have HAA := Lib.hid (HA.out.below HB2.out)
    have HXX := Lib.hid (below_up HX.out HB2.out)
    by_cases hlt : Ob < Om
    all_goals
      first
        | (have HE : Hid (RES = mosM m (S n)) := (by unfold Hid; rw [HPR.out, if_pos hlt]); obtain ⟨b0, hb0, hb0lt⟩ : ∃ b0, b0 = m ∧ b0 < 32768 := ⟨m, rfl, hm⟩)
        | (have HE : Hid (RES = mosM b (S n)) := (by unfold Hid; rw [HPR.out, if_neg hlt]); obtain ⟨b0, hb0, hb0lt⟩ : ∃ b0, b0 = b ∧ b0 < 32768 := ⟨b, rfl, hb⟩)
      rw [← hb0] at HE
      have HB0 := Lib.hid hb0
      clear hb0
      go_wp2
      clear hlt
      go_loopw [2, 9] (fun q i wr => ∃ k c0 : Nat, p ≤ k ∧ k ≤ n ∧ c0 < 32768 ∧ i = .int .i64 k ∧ q = .int .i64 c0 ∧ Hid (Below w2.heap.size w2 wr ∧ c0 = mosM b0 (S k))) (fun _ i _ => n - (intOf i).toNat)
      case atStart => exact ⟨p, b0, by omega, hp, hb0lt, rfl, by rw [HB0.out], Below.refl _ _, by rw [HNIL.out]; rfl⟩
      case round =>
        obtain ⟨k, c0, hpk, hkn, hc0, rfl, rfl, HC⟩ := hrel
        obtain ⟨x0, x1⟩ := (HRR.out.below HC.out.1).c2
        have hlr := (HRR.out.below HC.out.1).lt
        by_cases hk : k < n
        · have hoc := ones_le c0
          obtain ⟨Oc, hOc⟩ : ∃ x, onesF 15 c0 = x := ⟨_, rfl⟩
          have HOC : Hid (∀ W : World, Calls Try.prog 72 #[.int .i64 (c0 : Int)] W fun e w' => e = .returned (.int .i64 (Oc : Int)) ∧ Below W.heap.size W w') := fun W => by
            have := l05Ones_any c0 W hc0
            rwa [hOc] at this
          rw [hOc] at hoc
          have HOCE := Lib.hid hOc
          clear hOc
          by_cases hpr : Om + n ≤ Oc + k
          · have hpr2 : (Om : Int) + (n : Int) - (k : Int) ≤ (Oc : Int) := by omega
            go_wp2
            refine wp_region_ge_lit (by kernel_rfl) (by kernel_rfl) ?_; (repeat (go_big_quiet_step ((go_at_call 72; first | with_reducible exact ge_call (HON.out _) | with_reducible exact ge_call (HOC.out _))))); refine wpQuiet_nil ?_
            rintro w3 ⟨x, rfl⟩
            go_wp2
            go_ret
            refine ⟨ret_int ?_, below_up HXX.out (below_up HC.out.1 (ge_below _ _))⟩
            rw [HE.out, HSTOP.out b0 k c0 HC.out.2.symm hkn (by rw [HOCE.out]; exact hpr)]
          · have hpr2 : ¬ (Om : Int) + (n : Int) - (k : Int) ≤ (Oc : Int) := by omega
            go_wp2
            refine wp_region_ge_lit (by kernel_rfl) (by kernel_rfl) ?_; (repeat (go_big_quiet_step ((go_at_call 72; first | with_reducible exact ge_call (HON.out _) | with_reducible exact ge_call (HOC.out _))))); refine wpQuiet_nil ?_
            rintro w3 ⟨x, rfl⟩
            clear hpr hpr2
            have h2p : 2 ^ k < 32768 := by have : 2 ^ k < 2 ^ 15 := Nat.pow_lt_pow_right (by omega) (by omega); simpa using this
            have hor := bits_or_nat m (2 ^ k) (by omega) (by omega)
            have hmx : m ||| 2 ^ k < 32768 := by
              have : m ||| 2 ^ k < 2 ^ 15 := Nat.or_lt_two_pow (by simpa using hm) (by simpa using h2p)
              simpa using this
            have hw2 : bits .or .i64 (m : Int) (wrap64 ((2 : Int) ^ k)) = ((m ||| 2 ^ k : Nat) : Int) := by
              have e : wrap64 ((2 : Int) ^ k) = ((2 ^ k : Nat) : Int) := by have : ((2 : Int) ^ k) = ((2 ^ k : Nat) : Int) := by push_cast; rfl
                                                                            rw [this]; clear hor hmx this; generalize 2 ^ k = z at *; go_unwrap
              rw [e]; exact hor
            have HMX := Lib.hid hmx
            clear hor h2p hmx
            have HRG := Lib.hid (HRR.out.below (below_up HC.out.1 (ge_below wr x)))
            have HAG := Lib.hid (HAA.out.below (below_up HC.out.1 (ge_below wr x)))
            have HBG := Lib.hid (below_up HC.out.1 (ge_below wr x))
            go_wp2_with fail
            refine (l07Ind_any n A c xs (m ||| 2 ^ k) _ HAG.out (by omega) HG.out HMX.out).mono ?_
            rintro e w5 ⟨rfl, hb⟩
            have HB5 := Lib.hid (below_up HBG.out hb)
            clear hb hw2 x0 x1 hlr
            cases hi : indB xs (m ||| 2 ^ k)
            · have HSK : Hid (S (k + 1) = S k) := by unfold Hid; rw [HST.out, if_neg (fun h => by rw [hi] at h; exact absurd h.2 (by simp)), List.append_nil]
              clear hi
              go_wp2
              go_roundw
              case rel => exact ⟨k + 1, c0, by omega, by omega, hc0, by go_num, rfl, HB5.out, by rw [HSK.out]; exact HC.out.2⟩
              case measure => simp [intOf]; omega
            · have HSK : Hid (S (k + 1) = S k ++ preM xs n d (m ||| 2 ^ k) (k + 1)) := by unfold Hid; rw [HST.out, if_pos ⟨hpk, hi⟩]
              clear hi
              obtain ⟨y0, y1⟩ := (HRR.out.below HB5.out).c2
              have hlr5 := (HRR.out.below HB5.out).lt
              go_wp2_with fail
              refine (HIH.out (m ||| 2 ^ k) c0 (k + 1) _ _ (by push_cast; rfl) (by omega) (by omega) HMX.out hc0 (HAA.out.below HB5.out)).mono ?_
              rintro e w6 ⟨rfl, hb⟩
              have HB6 := Lib.hid (below_up HB5.out hb)
              clear hb y0 y1
              go_wp2
              go_roundw
              case rel => exact ⟨k + 1, mosM c0 (preM xs n d (m ||| 2 ^ k) (k + 1)), by omega, by omega, HPL.out k c0 (by omega) hc0, by go_num, rfl, HB6.out, by rw [HSK.out, mosM_app, ← HC.out.2]⟩
              case measure => simp [intOf]; omega
        · obtain rfl : k = n := by omega
          go_wp2
          refine wp_region_ge_lit (by kernel_rfl) (by kernel_rfl) ?_; (repeat (go_big_quiet_step ((fail)))); refine wpQuiet_nil ?_
          rintro w3 ⟨x, rfl⟩
          go_wp2
          go_ret
          exact ⟨ret_int (by rw [HE.out, ← HC.out.2]), below_up HXX.out (below_up HC.out.1 (ge_below _ _))⟩
end Go.Proofs.Ytbknpflbafjblaa

/- Contracts of the program's greatest independent sets; conditions: stated in each. -/
namespace Go.Proofs.Ytbknpflbafjblaa
open Go.RowKit
set_option maxHeartbeats 1000000
set_option maxRecDepth 100000
set_option linter.unusedSimpArgs false
set_option linter.unusedVariables false

/-- whether some block of a list is such -/
noncomputable def anyK (p : Blk → Bool) (xs : List Blk) : Bool := open Classical in decide (∃ k, k < xs.length ∧ p (nth xs k) = true)
theorem anyK_true {p : Blk → Bool} {xs : List Blk} {k : Nat} (hk : k < xs.length) (h : p (nth xs k) = true) : anyK p xs = true := by unfold anyK; simp; exact ⟨k, hk, h⟩
theorem anyK_false {p : Blk → Bool} {xs : List Blk} (h : ∀ k, k < xs.length → p (nth xs k) = false) : anyK p xs = false := by unfold anyK; simp; exact h

theorem indexFuncK_any (A : Option Addr) (c : Nat) (xs : List Blk) (g : Nat) (fa la : Array Value) (p : Blk → Bool) (w : World) (hA : Bl w A xs) (hl : xs.length ≤ 1048576)
    (eg : ∀ args w, (callFunc g args).run Try.prog w = .ok (.enter g args) w)
    (hp : ∀ (W : World) (k : Nat), k < xs.length → Below w.heap.size w W → Calls Try.prog g (fa ++ #[.agg #[.int .i64 (nth xs k).1, .int .i64 (nth xs k).2.1, .int .i64 (nth xs k).2.2]] ++ la) W fun e w' => e = .returned (.bool (p (nth xs k))) ∧ Below W.heap.size W w') :
    Calls Try.prog 166 #[.slice A xs.length c, .func (.func g) fa la] w fun e w' => ∃ r : Int, e = .returned (.int .i64 r) ∧ decide (r ≥ 0) = anyK p xs ∧ Below w.heap.size w w' := by
  have HA := Lib.hid hA; have HP := Lib.hid hp; clear hA hp
  go_enter Try.func166, Try.ntmps166
  go_wp2
  go_loopw [8] (fun i wr => ∃ k : Nat, k ≤ xs.length ∧ i = .int .i64 k ∧ Below w.heap.size w wr ∧ Hid (∀ j, j < k → p (nth xs j) = false)) (fun i _ => xs.length - (intOf i).toNat)
  case atStart => exact ⟨0, by omega, rfl, Below.refl _ _, fun i hi => by omega⟩
  case round =>
    obtain ⟨k, hk, rfl, hb, HC⟩ := hrel
    by_cases hlt : k < xs.length
    · obtain ⟨b1, o1, hA1, hb1, p0, p1, p2⟩ := (HA.out.below hb).at_ hlt
      subst hA1
      go_wp2_with fail
      refine (HP.out _ k hlt hb).mono ?_
      cases hq : p (nth xs k)
      · rintro e w1 ⟨rfl, hb1⟩
        have HB := Lib.hid (below_up hb hb1); clear hb1
        go_wp2
        go_roundw
        case rel =>
          refine ⟨k + 1, by omega, by go_num, HB.out, fun i hi => ?_⟩
          by_cases hij : i < k
          · exact HC.out i hij
          · obtain rfl : i = k := by omega
            exact hq
        case measure => simp [intOf]; omega
      · rintro e w1 ⟨rfl, hb1⟩
        have HB := Lib.hid (below_up hb hb1); clear hb1
        go_wp2
        go_ret
        exact ⟨(k : Int), rfl, by rw [anyK_true hlt hq]; simp, HB.out⟩
    · obtain rfl : k = xs.length := by omega
      go_wp2
      go_ret
      exact ⟨-1, rfl, by rw [anyK_false HC.out]; rfl, hb⟩

theorem containsFuncK_any (A : Option Addr) (c : Nat) (xs : List Blk) (g : Nat) (fa la : Array Value) (p : Blk → Bool) (w : World) (hA : Bl w A xs) (hl : xs.length ≤ 1048576)
    (eg : ∀ args w, (callFunc g args).run Try.prog w = .ok (.enter g args) w)
    (hp : ∀ (W : World) (k : Nat), k < xs.length → Below w.heap.size w W → Calls Try.prog g (fa ++ #[.agg #[.int .i64 (nth xs k).1, .int .i64 (nth xs k).2.1, .int .i64 (nth xs k).2.2]] ++ la) W fun e w' => e = .returned (.bool (p (nth xs k))) ∧ Below W.heap.size W w') :
    Calls Try.prog 136 #[.slice A xs.length c, .func (.func g) fa la] w fun e w' => e = .returned (.bool (anyK p xs)) ∧ Below w.heap.size w w' := by
  have HA := Lib.hid hA; have HP := Lib.hid hp; clear hA hp
  go_enter Try.func136, Try.ntmps136
  go_wp2_with fail
  refine (indexFuncK_any A c xs g fa la p _ HA.out hl eg HP.out).mono ?_
  rintro e w1 ⟨r, rfl, hr, hb⟩
  have HB := Lib.hid hb; clear hb
  go_wp2
  go_ret
  exact ⟨ret_bool rfl, HB.out⟩

theorem bits_lst {b : Blk} (hg : goodB 15 b = true) : bitsL (lst b) 3 = maskB b := by
  have hb := good_bd hg
  apply Nat.eq_of_testBit_eq
  intro j
  rw [Bool.eq_iff_iff, bitsL_bit, maskB_bit hg, has_iff]
  constructor
  · rintro ⟨i, hi, e⟩
    rw [lst_nth b i hi] at e
    obtain rfl | rfl | rfl : i = 0 ∨ i = 1 ∨ i = 2 := by omega
    · left; simp [el] at e; omega
    · right; left; simp [el] at e; omega
    · right; right; simp [el] at e; omega
  · rintro (e | e | e)
    · exact ⟨0, by omega, by rw [lst_nth b 0 (by omega)]; simp [el]; omega⟩
    · exact ⟨1, by omega, by rw [lst_nth b 1 (by omega)]; simp [el]; omega⟩
    · exact ⟨2, by omega, by rw [lst_nth b 2 (by omega)]; simp [el]; omega⟩
theorem blkSet_any (b : Blk) (w : World) (hg : goodB 15 b = true) :
    Calls Try.prog 117 #[.agg #[.int .i64 b.1, .int .i64 b.2.1, .int .i64 b.2.2]] w fun e w' => e = .returned (.int .u64 (maskB b : Nat)) ∧ Below w.heap.size w w' := by
  have HX := Lib.hid (Box.new w b 99)
  have HW := Lib.hid (below_alloc w (.cells #[.int .i64 b.1, .int .i64 b.2.1, .int .i64 b.2.2] 99))
  have HE := Lib.hid (bits_lst hg)
  have hb := good_bd hg
  have HRG : Hid (∀ k, k < (lst b).length → 0 ≤ nthI (lst b) k ∧ nthI (lst b) k < 15) := by
    intro k hk
    rw [lst_nth b k hk]
    obtain rfl | rfl | rfl : k = 0 ∨ k = 1 ∨ k = 2 := by have : (lst b).length = 3 := rfl
                                                         omega
    all_goals simp [el]; omega
  clear hg hb
  go_enter Try.func117, Try.ntmps117
  go_wp2_with fail
  refine (setOf_any (some ⟨w.heap.size, 0, none⟩) 3 (lst b) _ HX.out.il (by simp [lst]) HRG.out).mono ?_
  rintro e w1 ⟨rfl, hb⟩
  have HB := Lib.hid (below_up HW.out hb); clear hb
  go_wp2
  go_ret
  exact ⟨ret_int (by have := HE.out; exact congrArg Int.ofNat this), HB.out⟩
theorem bits_andnot {a b : Nat} (ha : a < 32768) (hb : b < 32768) : (bits .andNot .u64 (a : Int) (b : Int) == 0) = decide (a &&& b = a) := by
  have hx : ∀ x : Nat, x < 4611686018427387904 → IntKind.u64.wrap (x : Int) = x := fun x hx => wrap_u64_nat x hx
  have e : bits .andNot .u64 (a : Int) (b : Int) = ((a &&& (2 ^ 64 - 1 - b) : Nat) : Int) := by
    show IntKind.u64.wrap ((BitVec.ofInt 64 (a : Int) &&& ~~~ BitVec.ofInt 64 (b : Int)).toNat : Int) = _
    rw [BitVec.toNat_and, BitVec.toNat_not, ofInt64_nat a (by omega), ofInt64_nat b (by omega), hx _ (Nat.lt_of_le_of_lt Nat.and_le_left (by omega))]
  rw [e, Bool.eq_iff_iff, beq_iff_eq, decide_eq_true_eq, and_sub]
  have hz : ((a &&& (2 ^ 64 - 1 - b) : Nat) : Int) = 0 ↔ a &&& (2 ^ 64 - 1 - b) = 0 := by omega
  rw [hz]
  have hbit : ∀ j, (2 ^ 64 - 1 - b).testBit j = (decide (j < 64) && !b.testBit j) := by
    intro j
    have : 2 ^ 64 - 1 - b = 2 ^ 64 - (b + 1) := by omega
    rw [this, Nat.testBit_two_pow_sub_succ (by omega)]
  have ha15 : ∀ j, 15 ≤ j → a.testBit j = false := fun j hj => high_bit (p := 15) (by simpa using ha) hj
  constructor
  · intro h j hj
    have : (a &&& (2 ^ 64 - 1 - b)).testBit j = false := by rw [h]; simp
    rw [Nat.testBit_and, hj, hbit] at this
    have hj15 : j < 15 := by
      rcases Nat.lt_or_ge j 15 with h | h
      · exact h
      · rw [ha15 j h] at hj; cases hj
    have : decide (j < 64) = true := by simp; omega
    simp_all
  · intro h
    apply Nat.eq_of_testBit_eq
    intro j
    rw [Nat.testBit_and, hbit, Nat.zero_testBit]
    cases hj : a.testBit j
    · rfl
    · rw [h j hj]; simp

theorem indCl_any (s q : Nat) (b : Blk) (W : World) (hR : Row W q 76 #[.int .u64 (s : Int)]) (hg : goodB 15 b = true) (h15 : s < 32768) :
    Calls Try.prog 137 #[.agg #[.int .i64 b.1, .int .i64 b.2.1, .int .i64 b.2.2], .pointer (some ⟨q, 0, none⟩)] W fun e w' => e = .returned (.bool (decide (maskB b &&& s = maskB b))) ∧ Below W.heap.size W w' := by
  have HX := Lib.hid (Box.new W b 99)
  have HW := Lib.hid (below_alloc W (.cells #[.int .i64 b.1, .int .i64 b.2.1, .int .i64 b.2.2] 99))
  have HRR := Lib.hid (hR.below HW.out)
  have hml := maskB_lt hg
  have HE := Lib.hid (bits_andnot (a := maskB b) (b := s) (by simpa using hml) h15)
  have hgl := hg
  have HG := Lib.hid hg
  clear hg hgl hml hR
  go_enter Try.func137, Try.ntmps137
  go_wp2
  generalize W.alloc (.cells #[.int .i64 b.1, .int .i64 b.2.1, .int .i64 b.2.2] 99) = W1 at *
  obtain ⟨x0, x1, x2⟩ := HX.out.three
  have hxl := HX.out.1
  have r0 : W1.cell? ⟨q, 0, none⟩ = some (.int .u64 (s : Int)) := HRR.out.cell 0
  have hrl := HRR.out.lt
  refine wp_region_ge_lit (by kernel_rfl) (by kernel_rfl) ?_; (repeat (go_big_quiet_step ((go_at_call 117; exact ge_call (blkSet_any b _ HG.out))))); refine wpQuiet_nil ?_
  rintro w3 ⟨x, rfl⟩
  go_wp2
  go_ret
  exact ⟨ret_bool HE.out, below_up HW.out (ge_below _ _)⟩

theorem isInd_any (v : Int) (A : Option Addr) (c : Nat) (xs : List Blk) (s : Nat) (w : World) (hA : Bl w A xs) (hl : xs.length ≤ 1048576) (hg : ∀ i, i < xs.length → goodB 15 (nth xs i) = true) (h15 : s < 32768) :
    Calls Try.prog 82 #[.agg #[.int .i64 v, .slice A xs.length c], .int .u64 (s : Int)] w fun e w' => e = .returned (.bool (indB xs s)) ∧ Below w.heap.size w w' := by
  have hS := Row.new (w.alloc (.cells #[.int .i64 v, .slice A xs.length c] 30)) 76 #[.int .u64 (s : Int)]
  rw [World.size_alloc] at hS
  have HS := Lib.hid hS
  have hba := below_alloc (w.alloc (.cells #[.int .i64 v, .slice A xs.length c] 30)) (.cells #[.int .u64 (s : Int)] 76)
  have HW := Lib.hid (below_up (below_alloc w (.cells #[.int .i64 v, .slice A xs.length c] 30)) hba)
  have HR : Hid (Row ((w.alloc (.cells #[.int .i64 v, .slice A xs.length c] 30)).alloc (.cells #[.int .u64 (s : Int)] 76)) w.heap.size 30 #[.int .i64 v, .slice A xs.length c]) := Row.below (Row.new w 30 #[.int .i64 v, .slice A xs.length c]) hba
  have HA := Lib.hid (hA.below HW.out)
  have HG := Lib.hid hg
  have HE : Hid ((!anyK (fun b => decide (maskB b &&& s = maskB b)) xs) = indB xs s) := by
    unfold Hid
    rw [Bool.eq_iff_iff, indB_iff, Bool.not_eq_true']
    constructor
    · intro h i hi e
      rw [anyK_true hi (by simpa using e)] at h; cases h
    · intro h
      exact anyK_false fun i hi => by simpa using h i hi
  clear hA hS hba hg
  go_enter Try.func82, Try.ntmps82
  go_wp2_with fail
  refine (containsFuncK_any A c xs 137 #[] #[.pointer (some ⟨w.heap.size + 1, 0, none⟩)] (fun b => decide (maskB b &&& s = maskB b)) _ HA.out hl (fun args w => by kernel_rfl)
    (fun W k hk hb => indCl_any s (w.heap.size + 1) (nth xs k) W (HS.out.below hb) (HG.out k hk) h15)).mono ?_
  rintro e w1 ⟨rfl, hb⟩
  have HB := Lib.hid (below_up HW.out hb); clear hb
  go_wp2
  go_ret
  exact ⟨ret_bool HE.out, HB.out⟩

theorem sysAll_any (n : Nat) (A : Option Addr) (c m : Nat) (w : World) (hn : n ≤ 15) :
    Calls Try.prog 133 #[.agg #[.int .i64 n, .slice A m c]] w fun e w' => e = .returned (.int .u64 ((2 ^ n - 1 : Nat) : Int)) ∧ Below w.heap.size w w' := by
  have HW := Lib.hid (below_alloc w (.cells #[.int .i64 n, .slice A m c] 30))
  have HE : Hid (IntKind.u64.wrap (IntKind.u64.wrap ((2 : Int) ^ n) - 1) = ((2 ^ n - 1 : Nat) : Int)) := by
    have h1 : 2 ^ n ≤ 2 ^ 15 := Nat.pow_le_pow_right (by omega) hn
    have h2 : 0 < 2 ^ n := Nat.two_pow_pos n
    have e : ((2 : Int) ^ n) = ((2 ^ n : Nat) : Int) := by push_cast; rfl
    unfold Hid
    rw [e]
    generalize 2 ^ n = z at *
    rw [wrap_u64_nat z (by omega)]
    have : (z : Int) - 1 = ((z - 1 : Nat) : Int) := by omega
    rw [this, wrap_u64_nat _ (by omega)]
  go_enter Try.func133, Try.ntmps133
  go_wp2
  go_ret
  exact ⟨ret_int HE.out, HW.out⟩

end Go.Proofs.Ytbknpflbafjblaa

/- Contracts of MostIndependent, of the reference and of the program; conditions: stated in each. -/
namespace Go.Proofs.Ytbknpflbafjblaa
open Go.RowKit
set_option maxHeartbeats 4000000
set_option maxRecDepth 100000
set_option linter.unusedSimpArgs false
set_option linter.unusedVariables false

theorem best_any (n : Nat) (A : Option Addr) (c : Nat) (xs : List Blk) (w : World) (hA : Bl w A xs) (hl : xs.length ≤ 1048576) (hs : isSys n xs) :
    Calls Try.prog 81 #[.agg #[.int .i64 n, .slice A xs.length c], .int .i64 1, .func (.func 82) #[.agg #[.int .i64 n, .slice A xs.length c]] #[]] w fun e w' => ∃ u, e = .returned u ∧ Ro w' w.heap.size u (ptsN (mosM 0 (preM xs n n 0 0)) 15) ∧ Below w.heap.size w w' := by
  have hn := hs.1
  have HG : Hid (∀ i, i < xs.length → goodB 15 (nth xs i) = true) := fun i hi => good_mono (hs.2.2.1 i hi).1 hs.1.2
  have HI0 := Lib.hid (ind_zero (fun i hi => good_mono (hs.2.2.1 i hi).1 hs.1.2) : indB xs 0 = true)
  have HFIN : Hid (∀ s, bestS xs (2 ^ n) s → mosM 0 (preM xs n n 0 0) = s) := fun s h => best_is_pre (by omega) HI0.out h
  have hN1 : 2 ^ n ≤ 2 ^ 15 := Nat.pow_le_pow_right (by omega) (by omega)
  have hN0 : 0 < 2 ^ n := Nat.two_pow_pos n
  generalize mosM 0 (preM xs n n 0 0) = M at *
  have HALL : Hid (∀ W : World, Calls Try.prog 133 #[.agg #[.int .i64 n, .slice A xs.length c]] W fun e w' => e = .returned (.int .u64 ((2 ^ n - 1 : Nat) : Int)) ∧ Below W.heap.size W w') := fun W => sysAll_any n A c xs.length W (by omega)
  generalize 2 ^ n = N at *
  have hN : N ≤ 32768 := by simpa using hN1
  have HX := Lib.hid (below_alloc w (.cells #[.int .i64 n, .slice A xs.length c] 30))
  have HR := Lib.hid (Row.box w 30 (.int .i64 n) (.slice A xs.length c))
  have HA := Lib.hid (hA.below HX.out)
  have HSZ : Hid (w.heap.size ≤ (w.alloc (.cells #[.int .i64 n, .slice A xs.length c] 30)).heap.size) := HX.out.size
  clear hA hs hN1
  go_enter Try.func81, Try.ntmps81
  go_wp2
  generalize w.alloc (.cells #[.int .i64 n, .slice A xs.length c] 30) = W at *
  go_loopw [7, 8, 9, 10] (fun u m f i wr => ∃ (k s0 ms : Nat) (fd : Bool), k ≤ N ∧ ms ≤ 15 ∧ i = .int .u64 k ∧ m = .int .i64 ms ∧ f = .bool fd ∧ Hid (Below W.heap.size W wr ∧ (fd = false → k = 0 ∧ ms = 0 ∧ u = .slice none 0 0) ∧ (fd = true → bestS xs k s0 ∧ ms = onesF 15 s0 ∧ Ro wr w.heap.size u (ptsN s0 15)))) (fun _ _ _ i _ => N - (intOf i).toNat)
  case atStart => exact ⟨0, 0, 0, false, by omega, by omega, rfl, rfl, rfl, Below.refl _ _, fun _ => ⟨rfl, rfl, rfl⟩, fun h => (by cases h)⟩
  case round =>
    obtain ⟨k, s0, ms, fd, hk, hms, rfl, rfl, rfl, HC⟩ := hrel
    obtain ⟨c0, c1⟩ := (HR.out.below HC.out.1).c2
    have hlr := (HR.out.below HC.out.1).lt
    by_cases hlt : k < N
    · have hk15 : k < 32768 := by omega
      have hle : (k : Int) ≤ ((N - 1 : Nat) : Int) := by omega
      have HSK := Lib.hid (setSize_any k · hk15)
      have hok := ones_le k
      obtain ⟨Ok, hOk⟩ : ∃ x, onesF 15 k = x := ⟨_, rfl⟩
      rw [hOk] at HSK hok
      have HOK := Lib.hid hOk
      clear hOk
      cases fd
      · obtain ⟨rfl, rfl, rfl⟩ := HC.out.2.1 rfl
        have HC1 := Lib.hid HC.out.1
        have HOK0 : Hid (Ok = 0) := by rw [← HOK.out]; exact onesF_zero 15
        clear HC
        go_wp2_with fail
        refine (HALL.out _).mono ?_
        rintro e w1 ⟨rfl, hb⟩
        have HB1 := Lib.hid (below_up HC1.out hb)
        clear hb c0 c1
        have hle0 : (0 : Int) ≤ ((N - 1 : Nat) : Int) := by omega
        go_wp2_with fail
        refine (HSK.out _).mono ?_
        rintro e w2 ⟨rfl, rfl⟩
        go_wp2_with fail
        refine (isInd_any n A c xs 0 _ (HA.out.below HB1.out) hl HG.out (by omega)).mono ?_
        rw [HI0.out]
        rintro e w3 ⟨rfl, hb⟩
        have HB3 := Lib.hid (below_up HB1.out hb)
        clear hb
        go_wp2_with fail
        refine (setList_any 0 _ (by omega)).mono ?_
        rintro e w4 ⟨u, rfl, hO, hb⟩
        have HB4 := Lib.hid (below_up HB3.out hb)
        have HO := Lib.hid (own_base (base' := w.heap.size) hO (Nat.le_trans HSZ.out HB3.out.size))
        clear hO hb
        go_wp2
        go_roundw
        case rel => exact ⟨1, 0, Ok, true, by omega, hok, rfl, rfl, rfl, HB4.out, fun h => (by cases h), fun _ => ⟨bestS_zero HI0.out, HOK.out.symm, HO.out⟩⟩
        case measure => simp [intOf]; omega
      · obtain ⟨hbs, hme, hro⟩ := HC.out.2.2 rfl
        have HBS := Lib.hid hbs; have HME := Lib.hid hme; have HRO := Lib.hid hro
        have HC1 := Lib.hid HC.out.1
        obtain ⟨B5, d5, hu⟩ := own_slice hro
        subst hu
        clear HC hbs hme hro
        go_wp2_with fail
        refine (HALL.out _).mono ?_
        rintro e w1 ⟨rfl, hb⟩
        have HB1 := Lib.hid (below_up HC1.out hb)
        have HRO1 := Lib.hid (HRO.out.below hb)
        clear hb c0 c1
        go_wp2_with fail
        refine (HSK.out _).mono ?_
        rintro e w2 ⟨rfl, rfl⟩
        by_cases hlo : Ok < ms
        · have HNB : Hid (bestS xs (k + 1) s0) := bestS_skip HBS.out fun _ => .inl (by rw [HOK.out, ← HME.out]; exact hlo)
          go_wp2
          go_roundw
          case rel => exact ⟨k + 1, s0, ms, true, by omega, hms, by go_num, rfl, rfl, HB1.out, fun h => (by cases h), fun _ => ⟨HNB.out, HME.out, HRO1.out⟩⟩
          case measure => simp [intOf]; omega
        · go_wp2_with fail
          refine (isInd_any n A c xs k _ (HA.out.below HB1.out) hl HG.out hk15).mono ?_
          cases hi : indB xs k
          · rintro e w3 ⟨rfl, hb⟩
            have HB3 := Lib.hid (below_up HB1.out hb)
            have HRO3 := Lib.hid (HRO1.out.below hb)
            have HNB : Hid (bestS xs (k + 1) s0) := bestS_skip HBS.out fun h => by rw [hi] at h; cases h
            clear hb hi
            go_wp2
            go_roundw
            case rel => exact ⟨k + 1, s0, ms, true, by omega, hms, by go_num, rfl, rfl, HB3.out, fun h => (by cases h), fun _ => ⟨HNB.out, HME.out, HRO3.out⟩⟩
            case measure => simp [intOf]; omega
          · rintro e w3 ⟨rfl, hb⟩
            have HB3 := Lib.hid (below_up HB1.out hb)
            have HRO3 := Lib.hid (HRO1.out.below hb)
            have HIK := Lib.hid hi
            clear hb hi
            go_wp2_with fail
            refine (setList_any k _ hk15).mono ?_
            rintro e w4 ⟨u, rfl, hO, hb⟩
            obtain ⟨B6, d6, hu⟩ := own_slice hO
            subst hu
            have HB4 := Lib.hid (below_up HB3.out hb)
            have HRO4 := Lib.hid (HRO3.out.below hb)
            have HO := Lib.hid (own_base (base' := w.heap.size) hO (Nat.le_trans HSZ.out HB3.out.size))
            clear hO hb
            by_cases hgt : ms < Ok
            · have HNB : Hid (bestS xs (k + 1) k) := bestS_new HBS.out HIK.out (.inl (by rw [HOK.out, ← HME.out]; exact hgt))
              go_wp2
              go_roundw
              case rel => exact ⟨k + 1, k, Ok, true, by omega, hok, by go_num, rfl, rfl, HB4.out, fun h => (by cases h), fun _ => ⟨HNB.out, HOK.out.symm, HO.out⟩⟩
              case measure => simp [intOf]; omega
            · have HEQ : Hid (onesF 15 k = onesF 15 s0) := by unfold Hid; rw [HOK.out, ← HME.out]; omega
              have hl1 := ptsN_len k 15
              have hl2 := ptsN_len s0 15
              have HI1 := Lib.hid (Il.of_Ro HO.out)
              have HI2 := Lib.hid (Il.of_Ro HRO4.out)
              go_wp2_with fail
              refine (slicesCompare_any B6 B5 d6 d5 (ptsN k 15) (ptsN s0 15) _ HI1.out HI2.out (by omega) (by omega)).mono ?_
              obtain ⟨K, hK⟩ : ∃ K, cmpL (ptsN k 15) (ptsN s0 15) = K := ⟨_, rfl⟩
              rw [hK]
              have HK := Lib.hid hK
              clear hK
              rintro e w5 ⟨rfl, rfl⟩
              by_cases hcm : K < 0
              · have HNB : Hid (bestS xs (k + 1) k) := bestS_new HBS.out HIK.out (.inr ⟨HEQ.out, by rw [HK.out]; exact hcm⟩)
                go_wp2
                go_roundw
                case rel => exact ⟨k + 1, k, Ok, true, by omega, hok, by go_num, rfl, rfl, HB4.out, fun h => (by cases h), fun _ => ⟨HNB.out, HOK.out.symm, HO.out⟩⟩
                case measure => simp [intOf]; omega
              · have HNB : Hid (bestS xs (k + 1) s0) := bestS_skip HBS.out fun _ => .inr ⟨HEQ.out, by rw [HK.out]; exact hcm⟩
                go_wp2
                go_roundw
                case rel => exact ⟨k + 1, s0, ms, true, by omega, hms, by go_num, rfl, rfl, HB4.out, fun h => (by cases h), fun _ => ⟨HNB.out, HME.out, HRO4.out⟩⟩
                case measure => simp [intOf]; omega
    · obtain rfl : k = N := by omega
      cases fd
      · have := (HC.out.2.1 rfl).1
        omega
      · obtain ⟨hbs, hme, hro⟩ := HC.out.2.2 rfl
        have HBS := Lib.hid hbs; have HRO := Lib.hid hro
        have HC1 := Lib.hid HC.out.1
        clear HC hbs hme hro
        go_wp2_with fail
        refine (HALL.out _).mono ?_
        rintro e w1 ⟨rfl, hb⟩
        have HB1 := Lib.hid (below_up HC1.out hb)
        have HRO1 := Lib.hid (HRO.out.below hb)
        clear hb c0 c1
        have hgt : ¬ (k : Int) ≤ ((k - 1 : Nat) : Int) := by omega
        go_wp2
        go_ret
        exact ⟨_, rfl, by rw [HFIN.out s0 HBS.out]; exact HRO1.out, below_up HX.out HB1.out⟩

theorem implMos_any (v : Int) (A : Option Addr) (c : Nat) (xs : List Blk) (w : World) (hA : Bl w A xs) (hl : xs.length ≤ 1048576) :
    Calls Try.prog 39 #[.agg #[.int .i64 v, .slice A xs.length c]] w (LP w (mosR v xs).1 (mosR v xs).2) := by
  cases hs : isSysB v xs
  · have HN : Hid (mosR v xs = ([], 1)) := by unfold Hid mosR; simp [hs]
    generalize mosR v xs = R at *
    have HA := Lib.hid hA; clear hA; have HR := Lib.hid (Row.box w 30 (.int .i64 v) (.slice A xs.length c)); have HW := Lib.hid (Since.refl w); go_enter Try.func39, Try.ntmps39; go_wp2_with fail; replace HA := Lib.hid (HA.out.below (below_alloc _ (.cells #[.int .i64 v, .slice A xs.length c] 30))); replace HW := Lib.hid (HW.out.below (below_alloc _ (.cells #[.int .i64 v, .slice A xs.length c] 30)))
    refine (IsSystem_any v A c xs _ HA.out hl).mono ?_; rw [hs]; rintro e w_ ⟨rfl, hb⟩; replace HW := Lib.hid (HW.out.below hb); clear hb
    go_wp2
    go_ret2
    exact LP.nil (by rw [HN.out]) (by rw [HN.out]) HW.out
  · have HS := Lib.hid (isSysB_iff.1 hs)
    have hv := HS.out.1
    obtain ⟨n, rfl⟩ := Int.eq_ofNat_of_zero_le (by omega : 0 ≤ v)
    have HN : Hid (mosR n xs = (ptsN (mosM 0 (preM xs n n 0 0)) 15, 0)) := by unfold Hid mosR; rw [if_pos hs]; rfl
    generalize mosR n xs = R at *
    have HA := Lib.hid hA; clear hA; have HR := Lib.hid (Row.box w 30 (.int .i64 n) (.slice A xs.length c)); have HW := Lib.hid (Since.refl w); go_enter Try.func39, Try.ntmps39; go_wp2_with fail; replace HA := Lib.hid (HA.out.below (below_alloc _ (.cells #[.int .i64 n, .slice A xs.length c] 30))); replace HW := Lib.hid (HW.out.below (below_alloc _ (.cells #[.int .i64 n, .slice A xs.length c] 30)))
    refine (IsSystem_any n A c xs _ HA.out hl).mono ?_; rw [hs]; rintro e w_ ⟨rfl, hb⟩; replace HA := Lib.hid (HA.out.below hb); replace HW := Lib.hid (HW.out.below hb); replace HR := Lib.hid (HR.out.below hb); clear hb; (try clear c0 c1); obtain ⟨c0, c1⟩ := HR.out.c2
    have hlr := HR.out.lt
    go_wp2_with fail
    refine (best_any n A c xs _ HA.out hl HS.out).mono ?_
    rintro e w3 ⟨u, rfl, hO, hb⟩
    have HO := Lib.hid (own_base (base' := w.heap.size) hO HW.out.size)
    have HW3 := Lib.hid (HW.out.below hb)
    clear hO hb
    go_wp2
    go_ret2
    exact LP.mk HO.out (by rw [HN.out]) (by rw [HN.out]) HW3.out
theorem specMos_any (v : Int) (A : Option Addr) (c : Nat) (xs : List Blk) (w : World) (hA : Bl w A xs) (hl : xs.length ≤ 1048576) :
    Calls Try.prog 38 #[.agg #[.int .i64 v, .slice A xs.length c]] w (LP w (mosR v xs).1 (mosR v xs).2) := by
  cases hs : isSysB v xs
  · have HN : Hid (mosR v xs = ([], 1)) := by unfold Hid mosR; simp [hs]
    generalize mosR v xs = R at *
    have HA := Lib.hid hA; clear hA; have HR := Lib.hid (Row.box w 30 (.int .i64 v) (.slice A xs.length c)); have HW := Lib.hid (Since.refl w); go_enter Try.func38, Try.ntmps38; go_wp2_with fail; replace HA := Lib.hid (HA.out.below (below_alloc _ (.cells #[.int .i64 v, .slice A xs.length c] 30))); replace HW := Lib.hid (HW.out.below (below_alloc _ (.cells #[.int .i64 v, .slice A xs.length c] 30)))
    refine (l01Is_any v A c xs _ HA.out hl).mono ?_; rw [hs]; rintro e w_ ⟨rfl, hb⟩; replace HW := Lib.hid (HW.out.below hb); clear hb
    go_wp2
    go_ret2
    exact LP.nil (by rw [HN.out]) (by rw [HN.out]) HW.out
  · have HS := Lib.hid (isSysB_iff.1 hs)
    have hv := HS.out.1
    obtain ⟨n, rfl⟩ := Int.eq_ofNat_of_zero_le (by omega : 0 ≤ v)
    have HN : Hid (mosR n xs = (ptsN (mosM 0 (preM xs n n 0 0)) 15, 0)) := by unfold Hid mosR; rw [if_pos hs]; rfl
    have HLT : Hid (mosM 0 (preM xs n n 0 0) < 32768) := mos_lt (by omega) fun l hl => pre_lt (by omega) n 0 0 l (by omega) hl
    generalize mosR n xs = R at *
    have HA := Lib.hid hA; clear hA; have HR := Lib.hid (Row.box w 30 (.int .i64 n) (.slice A xs.length c)); have HW := Lib.hid (Since.refl w); go_enter Try.func38, Try.ntmps38; go_wp2_with fail; replace HA := Lib.hid (HA.out.below (below_alloc _ (.cells #[.int .i64 n, .slice A xs.length c] 30))); replace HW := Lib.hid (HW.out.below (below_alloc _ (.cells #[.int .i64 n, .slice A xs.length c] 30)))
    refine (l01Is_any n A c xs _ HA.out hl).mono ?_; rw [hs]; rintro e w_ ⟨rfl, hb⟩; replace HA := Lib.hid (HA.out.below hb); replace HW := Lib.hid (HW.out.below hb); replace HR := Lib.hid (HR.out.below hb); clear hb; (try clear c0 c1); obtain ⟨c0, c1⟩ := HR.out.c2
    go_wp2_with fail
    refine (l07Most_any n A c xs HS.out n 0 0 0 0 _ rfl (by omega) (by omega) (by omega) (by omega) HA.out).mono ?_
    rintro e w3 ⟨rfl, hb⟩
    have HW3 := Lib.hid (HW.out.below hb)
    clear hb
    go_wp2_with fail
    refine (l07Points_any _ _ HLT.out).mono ?_
    rintro e w4 ⟨u, rfl, hO, hb⟩
    have HO := Lib.hid (own_base (base' := w.heap.size) hO HW3.out.size)
    have HW4 := Lib.hid (HW3.out.below hb)
    clear hO hb
    go_wp2
    go_ret2
    exact LP.mk HO.out (by rw [HN.out]) (by rw [HN.out]) HW4.out

end Go.Proofs.Ytbknpflbafjblaa
