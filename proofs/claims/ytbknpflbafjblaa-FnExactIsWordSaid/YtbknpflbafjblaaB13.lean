/- Plain laws and contracts, part 13; conditions: stated in each. -/
import Derived.Test.YtbknpflbafjblaaB4
import Derived.Test.YtbknpflbafjblaaB5
import Derived.Test.YtbknpflbafjblaaB8
import Derived.Test.YtbknpflbafjblaaB12
set_option linter.unusedSimpArgs false
set_option linter.unusedVariables false
/- Plain laws: the rank modulo 2 tells the number of words; conditions: stated in each. -/
namespace Go.Proofs.Ytbknpflbafjblaa
set_option linter.unusedSimpArgs false
set_option linter.unusedVariables false

theorem spF_own (m : Nat → Nat) : ∀ i j, j < i → spF m i (m j) = true := by
  intro i
  induction i with
  | zero => intro j h; omega
  | succ i ih =>
    intro j h
    rw [spF, Bool.or_eq_true]
    by_cases e : j = i
    · right; subst e; rw [Nat.xor_self]; exact spF_zero _ _
    · exact .inl (ih j (by omega))
theorem spF_least {m : Nat → Nat} {P : Nat → Prop} (h0 : P 0) : ∀ i, (∀ j, j < i → ∀ a, P a → P (a ^^^ m j)) → ∀ s, spF m i s = true → P s := by
  intro i
  induction i with
  | zero => intro _ s h; unfold spF at h; simp only [decide_eq_true_eq] at h; rw [h]; exact h0
  | succ i ih =>
    intro hc s h
    rw [spF, Bool.or_eq_true] at h
    rcases h with h | h
    · exact ih (fun j hj => hc j (by omega)) s h
    · have := hc i (by omega) _ (ih (fun j hj => hc j (by omega)) _ h)
      rwa [xor_twice] at this
theorem spF_sub {m m' : Nat → Nat} {i k : Nat} (h : ∀ j, j < i → spF m' k (m j) = true) {s : Nat} (hs : spF m i s = true) : spF m' k s = true :=
  spF_least (P := fun a => spF m' k a = true) (spF_zero _ _) i (fun j hj a ha => spF_xor _ _ _ _ ha (h j hj)) s hs
theorem spF_eq {m m' : Nat → Nat} {i : Nat} (h : ∀ j, j < i → spF m' i (m j) = true) (h' : ∀ j, j < i → spF m i (m' j) = true) (s : Nat) : spF m i s = spF m' i s := by
  rw [Bool.eq_iff_iff]; exact ⟨spF_sub h, spF_sub h'⟩

/-- a row as digits -/
def rmk (F : Nat → Int) : Nat → Nat
  | 0 => 0
  | k + 1 => rmk F k ||| (if F k = 0 then 0 else 2 ^ k)
theorem rmk_bit (F : Nat → Int) : ∀ v j, (rmk F v).testBit j = (decide (j < v) && decide (F j ≠ 0)) := by
  intro v
  induction v with
  | zero => intro j; simp [rmk]
  | succ v ih =>
    intro j
    rw [rmk, Nat.testBit_or, ih]
    by_cases h : F v = 0
    · rw [if_pos h, Nat.zero_testBit, Bool.or_false]
      by_cases e : j = v
      · subst e; simp [h]
      · have : (j < v) ↔ (j < v + 1) := by omega
        simp [this]
    · rw [if_neg h, Nat.testBit_two_pow]
      by_cases e : j = v
      · subst e; simp [h]
      · have h1 : (j < v) ↔ (j < v + 1) := by omega
        have h2 : ¬ v = j := fun h => e h.symm
        simp [h1, h2]
theorem rmk_ext {F G : Nat → Int} {v : Nat} (h : ∀ k, k < v → (F k ≠ 0 ↔ G k ≠ 0)) : rmk F v = rmk G v := by
  apply Nat.eq_of_testBit_eq
  intro j
  rw [rmk_bit, rmk_bit]
  by_cases hj : j < v
  · have := h j hj
    simp [hj, this]
  · simp [hj]
/-- rows with pivots; no row of them is made of the others -/
structure EchX (m v r c : Nat) (X : Nat → Nat → Int) : Prop where
  piv : ∃ pv : Nat → Nat, ∀ j, j < r → pv j < c ∧ X j (pv j) ≠ 0 ∧ ∀ i, j < i → i < m → X i (pv j) = 0
theorem ech_new {m v r c : Nat} {X : Nat → Nat → Int} (h : EchX m v r c X) (hr : r ≤ m) (hc : c ≤ v) : ∀ i, i < r → spF (fun i => rmk (X i) v) i (rmk (X i) v) = false := by
  obtain ⟨pv, hp⟩ := h.piv
  intro i hi
  -- a sum of rows is 0 or has a pivot's digit that later rows have not
  have key : ∀ k, k ≤ i → ∀ s, spF (fun i => rmk (X i) v) k s = true → s = 0 ∨ ∃ j, j < k ∧ s.testBit (pv j) = true ∧ ∀ l, l < j → s.testBit (pv l) = false := by
    intro k
    induction k with
    | zero => intro _ s hs; unfold spF at hs; simp only [decide_eq_true_eq] at hs; exact .inl hs
    | succ k ih =>
      intro hk s hs
      rw [spF, Bool.or_eq_true] at hs
      rcases hs with hs | hs
      · rcases ih (by omega) s hs with h0 | ⟨j, h1, h2⟩
        · exact .inl h0
        · exact .inr ⟨j, by omega, h2⟩
      · have hpk := hp k (by omega)
        have hb : ∀ l, l < k → (rmk (X k) v).testBit (pv l) = false := fun l hl => by
          rw [rmk_bit]
          have := (hp l (by omega)).2.2 k hl (by omega)
          simp [this]
        have hown : (rmk (X k) v).testBit (pv k) = true := by rw [rmk_bit]; simp [hpk.2.1]; omega
        have hxs : ∀ q, (s ^^^ rmk (X k) v).testBit q = (s.testBit q ^^ (rmk (X k) v).testBit q) := fun q => Nat.testBit_xor _ _ _
        rcases ih (by omega) _ hs with h0 | ⟨j, h1, h2, h3⟩
        · have e : s = rmk (X k) v := by
            have := congrArg (fun x => x ^^^ rmk (X k) v) h0
            simpa [xor_twice] using this
          right
          exact ⟨k, by omega, by rw [e]; exact hown, fun l hl => by rw [e]; exact hb l hl⟩
        · right
          refine ⟨j, by omega, ?_, fun l hl => ?_⟩
          · have := hxs (pv j); rw [h2, hb j h1] at this; simpa using this.symm
          · have := hxs (pv l); rw [h3 l hl, hb l (by omega)] at this; simpa using this.symm
  cases hb : spF (fun i => rmk (X i) v) i (rmk (X i) v)
  · rfl
  · exfalso
    have hpi := hp i hi
    have hown : (rmk (X i) v).testBit (pv i) = true := by rw [rmk_bit]; simp [hpi.2.1]; omega
    rcases key i (Nat.le_refl _) _ hb with h0 | ⟨j, h1, h2, _⟩
    · rw [h0] at hown; simp at hown
    · rw [rmk_bit] at h2
      have := (hp j (by omega)).2.2 i h1 (by omega)
      simp [this] at h2
/-- as many words as 2 to the number of rows with pivots -/
theorem ech_len {m v r : Nat} {X : Nat → Nat → Int} (h : EchX m v r v X) (hr : r ≤ m) (hz : ∀ i, r ≤ i → i < m → ∀ k, k < v → X i k = 0) : ∀ i, i ≤ m → ∃ L, Wds (fun i => rmk (X i) v) i L ∧ L.length = 2 ^ (min i r) := by
  intro i
  induction i with
  | zero => intro _; exact ⟨[0], Wds.start _, by simp⟩
  | succ i ih =>
    intro hi
    obtain ⟨L, h1, h2⟩ := ih (by omega)
    by_cases hir : i < r
    · have hn := ech_new h hr (Nat.le_refl _) i hir
      refine ⟨_, h1.more hn (List.Perm.refl L), ?_⟩
      rw [List.length_append, List.length_map, h2, Nat.min_eq_left (by omega), Nat.min_eq_left (by omega), Nat.pow_succ]; omega
    · have h0 : rmk (X i) v = 0 := by
        apply Nat.eq_of_testBit_eq
        intro j
        rw [rmk_bit, Nat.zero_testBit]
        by_cases hj : j < v
        · simp [hz i (by omega) (by omega) j hj]
        · simp [hj]
      refine ⟨L, h1.skip (by show spF _ i (rmk (X i) v) = true; rw [h0]; exact spF_zero _ _), ?_⟩
      rw [h2, Nat.min_eq_right (by omega), Nat.min_eq_right (by omega)]
theorem Wds.len_eq {m : Nat → Nat} {i : Nat} {L M : List Nat} (h : Wds m i L) (k : Wds m i M) : L.length = M.length :=
  Nat.le_antisymm (nodup_len_le L M h.nod fun x hx => (k.mem x).2 ((h.mem x).1 hx)) (nodup_len_le M L k.nod fun x hx => (h.mem x).2 ((k.mem x).1 hx))
/-- the elimination: same words, rows with pivots -/
theorem rk_span {m v : Nat} {X : Nat → Nat → Int} (h0 : ∀ i, i < m → ∀ k, k < v → 0 ≤ X i k ∧ X i k < 2) : ∀ c, c ≤ v → (∀ s, spF (fun i => rmk ((rkS 2 m X c).1 i) v) m s = spF (fun i => rmk (X i) v) m s) ∧ EchX m v (rkS 2 m X c).2 c (rkS 2 m X c).1 := by
  intro c
  induction c with
  | zero => intro _; exact ⟨fun s => rfl, ⟨⟨fun _ => 0, fun j hj => by simp [rkS] at hj⟩⟩⟩
  | succ c ih =>
    intro hc
    obtain ⟨i1, i2⟩ := ih (by omega)
    have hg := rk_good (p := 2) (.inl rfl) h0 c (by omega)
    obtain ⟨a1, a2, a3, a4⟩ := pvN_spec (rkS 2 m X c).1 c (m - (rkS 2 m X c).2) (rkS 2 m X c).2
    rw [rkS]
    generalize rkS 2 m X c = S at *
    obtain ⟨Y, r⟩ := S
    simp only at *
    have hrm := hg.rle
    obtain ⟨pv, hp⟩ := i2.piv
    by_cases hb : pvN Y c (m - r) r < m
    · rw [if_pos hb]
      generalize pvN Y c (m - r) r = b at *
      have hne := a3 (by omega)
      have hb2 := hg.rng b hb c (by omega)
      have hb1 : Y b c = 1 := by omega
      -- what the step makes of the rows
      have hsw : ∀ i, swpX Y r b i = if i = r then Y b else if i = b then Y r else Y i := fun i => rfl
      have hr1 : swpX Y r b r = Y b := by rw [hsw, if_pos rfl]
      have hrngS : ∀ i, i < m → ∀ k, k < v → 0 ≤ swpX Y r b i k ∧ swpX Y r b i k < 2 := fun i hi k hk => by
        rw [hsw]
        split
        · exact hg.rng b hb k hk
        · split
          · exact hg.rng r (by omega) k hk
          · exact hg.rng i hi k hk
      have hzS : ∀ i, r ≤ i → i < m → ∀ k, k < c → swpX Y r b i k = 0 := fun i h1 h2 k hk => by
        rw [hsw]
        split
        · exact hg.zer b a1 hb k hk
        · split
          · exact hg.zer r (Nat.le_refl _) (by omega) k hk
          · exact hg.zer i h1 h2 k hk
      have hlow : ∀ i, i < r → swpX Y r b i = Y i := fun i hi => by rw [hsw, if_neg (by omega), if_neg (by omega)]
      have hst : ∀ i k, stpX 2 (swpX Y r b) r c i k = if r < i then (swpX Y r b i k - swpX Y r b i c * Y b c * Y b k) % 2 else swpX Y r b i k := fun i k => by unfold stpX; rw [hr1]
      have hrow : ∀ i, i < m → rmk (stpX 2 (swpX Y r b) r c i) v = if r < i ∧ swpX Y r b i c = 1 then rmk (swpX Y r b i) v ^^^ rmk (Y b) v else rmk (swpX Y r b i) v := fun i hi => by
        by_cases hri : r < i
        · have hc2 := hrngS i hi c (by omega)
          by_cases hc1 : swpX Y r b i c = 1
          · rw [if_pos ⟨hri, hc1⟩]
            apply Nat.eq_of_testBit_eq
            intro j
            rw [rmk_bit, Nat.testBit_xor, rmk_bit, rmk_bit]
            by_cases hj : j < v
            · have h1 := hrngS i hi j hj
              have h2 := hg.rng b hb j hj
              rw [hst, if_pos hri, hc1, hb1]
              rcases (by omega : swpX Y r b i j = 0 ∨ swpX Y r b i j = 1) with e1 | e1 <;> rcases (by omega : Y b j = 0 ∨ Y b j = 1) with e2 | e2 <;> rw [e1, e2] <;> simp [hj]
            · simp [hj]
          · rw [if_neg (fun h => hc1 h.2)]
            refine rmk_ext fun k hk => ?_
            have h1 := hrngS i hi k hk
            have hc0 : swpX Y r b i c = 0 := by omega
            rw [hst, if_pos hri, hc0]
            rcases (by omega : swpX Y r b i k = 0 ∨ swpX Y r b i k = 1) with e1 | e1 <;> rw [e1] <;> simp
        · rw [if_neg (fun h => hri h.1)]
          refine rmk_ext fun k hk => ?_
          rw [hst, if_neg hri]
      refine ⟨fun s => ?_, ⟨⟨fun j => if j < r then pv j else c, fun j hj => ?_⟩⟩⟩
      · rw [← i1]
        -- the swapped rows first
        have hA : ∀ j, j < m → spF (fun i => rmk (Y i) v) m (rmk (swpX Y r b j) v) = true := fun j hj => by
          rw [hsw]
          split
          · exact spF_own _ m b hb
          · split
            · exact spF_own _ m r (by omega)
            · exact spF_own _ m j hj
        have hB : ∀ j, j < m → spF (fun i => rmk (swpX Y r b i) v) m (rmk (Y j) v) = true := fun j hj => by
          by_cases e1 : j = r
          · subst e1
            have h := spF_own (fun i => rmk (swpX Y j b i) v) m b hb
            have e : swpX Y j b b = Y j := by rw [hsw]; by_cases e2 : b = j <;> simp [e2]
            simp only [e] at h; exact h
          · by_cases e2 : j = b
            · subst e2
              have h := spF_own (fun i => rmk (swpX Y r j i) v) m r (by omega)
              simp only [hr1] at h; exact h
            · have h := spF_own (fun i => rmk (swpX Y r b i) v) m j hj
              have e : swpX Y r b j = Y j := by rw [hsw, if_neg e1, if_neg e2]
              simp only [e] at h; exact h
        rw [spF_eq hB hA]
        have hbr : spF (fun i => rmk (swpX Y r b i) v) m (rmk (Y b) v) = true := hB b hb
        have hbr2 : spF (fun i => rmk (stpX 2 (swpX Y r b) r c i) v) m (rmk (Y b) v) = true := by
          have h := spF_own (fun i => rmk (stpX 2 (swpX Y r b) r c i) v) m r (by omega)
          have e : rmk (stpX 2 (swpX Y r b) r c r) v = rmk (Y b) v := by rw [hrow r (by omega), if_neg (by omega), hr1]
          simp only [e] at h; exact h
        refine spF_eq (fun j hj => ?_) (fun j hj => ?_) s
        · show spF _ m (rmk (stpX 2 (swpX Y r b) r c j) v) = true
          rw [hrow j hj]
          split
          · exact spF_xor _ _ _ _ (spF_own (fun i => rmk (swpX Y r b i) v) m j hj) hbr
          · exact spF_own (fun i => rmk (swpX Y r b i) v) m j hj
        · show spF _ m (rmk (swpX Y r b j) v) = true
          have h := spF_own (fun i => rmk (stpX 2 (swpX Y r b) r c i) v) m j hj
          have e := hrow j hj
          simp only [e] at h
          split at h
          · have := spF_xor _ _ _ _ h hbr2; rwa [xor_twice] at this
          · exact h
      · dsimp only at hj ⊢
        by_cases hjr : j < r
        · have hpj := hp j hjr
          rw [if_pos hjr]
          refine ⟨by omega, ?_, fun i h1 h2 => ?_⟩
          · rw [hst, if_neg (by omega), hlow j hjr]; exact hpj.2.1
          · have hbz : Y b (pv j) = 0 := hpj.2.2 b (by omega) hb
            have hiz : swpX Y r b i (pv j) = 0 := by
              rw [hsw]
              split
              · exact hbz
              · split
                · exact hpj.2.2 r (by omega) (by omega)
                · exact hpj.2.2 i h1 h2
            rw [hst]
            split
            · rw [hiz, hbz]; simp
            · exact hiz
        · have e : j = r := by omega
          subst e
          rw [if_neg hjr]
          refine ⟨by omega, by rw [hst, if_neg (by omega), hr1]; exact hne, fun i h1 h2 => ?_⟩
          rw [hst, if_pos h1, hb1]
          have := hrngS i h2 c (by omega)
          rcases (by omega : swpX Y j b i c = 0 ∨ swpX Y j b i c = 1) with e1 | e1 <;> rw [e1] <;> simp
    · rw [if_neg hb]
      exact ⟨i1, ⟨⟨pv, fun j hj => ⟨by have := (hp j hj).1; omega, (hp j hj).2⟩⟩⟩⟩
theorem rk_len {m v : Nat} {X : Nat → Nat → Int} (h0 : ∀ i, i < m → ∀ k, k < v → 0 ≤ X i k ∧ X i k < 2) {L : List Nat} (hL : Wds (fun i => rmk (X i) v) m L) : L.length = 2 ^ (rkS 2 m X v).2 := by
  obtain ⟨h1, h2⟩ := rk_span h0 v (Nat.le_refl _)
  have hg := rk_good (p := 2) (.inl rfl) h0 v (Nat.le_refl _)
  obtain ⟨M, hM, hl⟩ := ech_len h2 hg.rle (fun i a b k hk => hg.zer i a b k hk) m (Nat.le_refl _)
  have hM2 : Wds (fun i => rmk (X i) v) m M := ⟨fun s => by rw [hM.mem, h1], hM.nod⟩
  rw [hL.len_eq hM2, hl, Nat.min_eq_right hg.rle]
theorem wds_ex (m : Nat → Nat) : ∀ i, ∃ L, Wds m i L := by
  intro i
  induction i with
  | zero => exact ⟨_, Wds.start m⟩
  | succ i ih =>
    obtain ⟨L, h⟩ := ih
    cases hb : spF m i (m i)
    · exact ⟨_, h.more hb (List.Perm.refl L)⟩
    · exact ⟨L, h.skip hb⟩
theorem pow_inj2 {a b : Nat} (h : 2 ^ a = 2 ^ b) : a = b := by
  rcases Nat.lt_trichotomy a b with h1 | h1 | h1
  · have := Nat.pow_lt_pow_right (a := 2) (by omega) h1; omega
  · exact h1
  · have := Nat.pow_lt_pow_right (a := 2) (by omega) h1; omega
/-- one row more makes the rank no greater just if it is a word -/
theorem rk_word {m v : Nat} {X : Nat → Nat → Int} (h0 : ∀ i, i < m + 1 → ∀ k, k < v → 0 ≤ X i k ∧ X i k < 2) : (rkS 2 (m + 1) X v).2 = (rkS 2 m X v).2 ↔ spF (fun i => rmk (X i) v) m (rmk (X m) v) = true := by
  obtain ⟨L, hL⟩ := wds_ex (fun i => rmk (X i) v) m
  have l1 := rk_len (fun i hi => h0 i (by omega)) hL
  cases hb : spF (fun i => rmk (X i) v) m (rmk (X m) v)
  · have l2 := rk_len h0 (hL.more hb (List.Perm.refl L))
    rw [List.length_append, List.length_map, l1] at l2
    have : 0 < 2 ^ (rkS 2 m X v).2 := Nat.pow_pos (by omega)
    simp only [Bool.false_eq_true, iff_false]
    intro e
    rw [e] at l2; omega
  · have l2 := rk_len h0 (hL.skip hb)
    rw [l1] at l2
    simp only [iff_true]
    exact (pow_inj2 l2).symm

end Go.Proofs.Ytbknpflbafjblaa

/- The contract of the program's IsWord; conditions: stated in it. -/
namespace Go.Proofs.Ytbknpflbafjblaa
open Go.RowKit
set_option maxHeartbeats 2000000
set_option maxRecDepth 100000
set_option linter.unusedSimpArgs false
set_option linter.unusedVariables false

theorem word_rng {n : Nat} {xs : List Blk} {ls : List Int} (h : spnCode n xs ls = 0) : isSys n xs ∧ (∀ k, k < ls.length → 0 ≤ nthI ls k ∧ nthI ls k < (n : Int)) ∧ bitsL ls ls.length < 2 ^ n := by
  obtain ⟨h1, h2⟩ := spnCode_zero h
  have hs := isSysB_iff.1 h1
  have hr := risesB_iff.1 h2
  have hk : ∀ k, k < ls.length → 0 ≤ nthI ls k ∧ nthI ls k < (n : Int) := fun k hk => by have := (hr k hk).1; omega
  exact ⟨hs, hk, bitsL_lt (fun k hk2 => by have := hk k hk2; omega) _ (Nat.le_refl _)⟩
/-- whether a set is a word, and a code -/
noncomputable def iwR (v : Int) (xs : List Blk) (ls : List Int) : Bool × Int := if spnCode v xs ls ≠ 0 then (false, spnCode v xs ls) else (spF (mkF xs) xs.length (bitsL ls ls.length), 0)
theorem spn_nat {v : Int} {xs : List Blk} {ls : List Int} (h : spnCode v xs ls = 0) : 0 ≤ v := by have := (isSysB_iff.1 (spnCode_zero h).1).1; omega
theorem implIw_any (v : Int) (A : Option Addr) (c : Nat) (xs : List Blk) (B : Option Addr) (d : Nat) (ls : List Int) (w : World) (hA : Bl w A xs) (hl : xs.length ≤ 1048576) (hB : Il w B ls) (hlb : ls.length ≤ 1048576) :
    Calls Try.prog 27 #[.agg #[.int .i64 v, .slice A xs.length c], .slice B ls.length d] w fun e w' => e = .returned (.tuple #[.bool (iwR v xs ls).1, .int .i64 (iwR v xs ls).2]) ∧ Below w.heap.size w w' := by
  have HB := Lib.hid hB; clear hB
  by_cases hK : spnCode v xs ls = 0
  · obtain ⟨n, rfl⟩ := Int.eq_ofNat_of_zero_le (spn_nat hK)
    have HN : Hid (iwR n xs ls = (spF (mkF xs) xs.length (bitsL ls ls.length), 0)) := by unfold Hid iwR; rw [if_neg (by simpa using hK)]
    obtain ⟨hs, hr, hb⟩ := word_rng hK
    have hv := hs.1
    have HS := Lib.hid hs
    have HRG : Hid (∀ k, k < ls.length → 0 ≤ nthI ls k ∧ nthI ls k < 15) := fun k hk => by have := hr k hk; omega
    have h15 : bitsL ls ls.length < 32768 := Nat.lt_of_lt_of_le hb (by have : 2 ^ n ≤ 2 ^ 15 := Nat.pow_le_pow_right (by omega) (by omega)
                                                                       simpa using this)
    have HK := Lib.hid hK
    generalize iwR n xs ls = R at *
    clear hs hr hb hK
    have HA := Lib.hid hA; clear hA; have HR := Lib.hid (Row.box w 30 (.int .i64 n) (.slice A xs.length c)); have HW := Lib.hid (Since.refl w); go_enter Try.func27, Try.ntmps27; go_wp2_with fail; replace HA := Lib.hid (HA.out.below (below_alloc _ (.cells #[.int .i64 n, .slice A xs.length c] 30))); replace HW := Lib.hid (HW.out.below (below_alloc _ (.cells #[.int .i64 n, .slice A xs.length c] 30))); replace HB := Lib.hid (HB.out.below (below_alloc _ (.cells #[.int .i64 n, .slice A xs.length c] 30)))
    refine (implSetCode_any n A c xs B d ls _ HA.out hl HB.out hlb).mono ?_; rw [HK.out]; rintro e w_ ⟨rfl, hb⟩; replace HA := Lib.hid (HA.out.below hb); replace HB := Lib.hid (HB.out.below hb); replace HW := Lib.hid (HW.out.below hb); replace HR := Lib.hid (HR.out.below hb); clear hb; (try clear c0 c1); obtain ⟨c0, c1⟩ := HR.out.c2
    have hrl := HR.out.lt
    go_wp2_with fail
    refine (code_any n A c xs _ HA.out HS.out).mono ?_
    rintro e w5 ⟨b, k, rfl, hM, -, hb⟩
    have HM := Lib.hid hM
    replace HB := Lib.hid (HB.out.below hb); replace HW := Lib.hid (HW.out.below hb); clear hb
    clear hM
    go_wp2_with fail
    refine (setOf_any B d ls _ HB.out hlb HRG.out).mono ?_
    rintro e w6 ⟨rfl, hb⟩
    have hlook : (Instr.lookup 73 (.map (some b)) (.int .u64 ((bitsL ls ls.length : Nat) : Int)) false).run Try.prog w6 = .ok (.bool (spF (mkF xs) xs.length (bitsL ls ls.length))) w6 := (HM.out.below hb).look h15
    have HW6 := Lib.hid (HW.out.below hb)
    clear hb
    go_wp2
    go_ret2
    exact ⟨by rw [HN.out]; rfl, HW6.out⟩
  · have HN : Hid (iwR v xs ls = (false, spnCode v xs ls)) := by unfold Hid iwR; rw [if_pos hK]
    have hK1 : (spnCode v xs ls != 0) = true := by simpa using hK
    have hK2 : (spnCode v xs ls == 0) = false := by simpa using hK
    generalize iwR v xs ls = R at *
    have HA := Lib.hid hA; clear hA; have HR := Lib.hid (Row.box w 30 (.int .i64 v) (.slice A xs.length c)); have HW := Lib.hid (Since.refl w); go_enter Try.func27, Try.ntmps27; go_wp2_with fail; replace HA := Lib.hid (HA.out.below (below_alloc _ (.cells #[.int .i64 v, .slice A xs.length c] 30))); replace HW := Lib.hid (HW.out.below (below_alloc _ (.cells #[.int .i64 v, .slice A xs.length c] 30))); replace HB := Lib.hid (HB.out.below (below_alloc _ (.cells #[.int .i64 v, .slice A xs.length c] 30)))
    refine (implSetCode_any v A c xs B d ls _ HA.out hl HB.out hlb).mono ?_; rintro e w_ ⟨rfl, hb⟩; replace HW := Lib.hid (HW.out.below hb); clear hb
    go_wp2
    go_ret2
    exact ⟨by rw [HN.out]; rfl, HW.out⟩

end Go.Proofs.Ytbknpflbafjblaa

/- The contract of the reference's IsWord; conditions: stated in it. -/
namespace Go.Proofs.Ytbknpflbafjblaa
open Go.RowKit
set_option maxHeartbeats 2000000
set_option maxRecDepth 100000
set_option linter.unusedSimpArgs false
set_option linter.unusedVariables false

/-- the row of points -/
def rowP (ls : List Int) : Nat → Nat → Int
  | 0 => fun _ => 0
  | k + 1 => upd (rowP ls k) (nthI ls k).toNat 1
theorem rowP_one (ls : List Int) (j : Nat) : ∀ k, (0 ≤ rowP ls k j ∧ rowP ls k j < 2) ∧ (rowP ls k j ≠ 0 ↔ ∃ i, i < k ∧ (nthI ls i).toNat = j) := by
  intro k
  induction k with
  | zero => simp [rowP]
  | succ k ih =>
    rw [rowP]
    unfold upd
    by_cases e : j = (nthI ls k).toNat
    · rw [if_pos e]; exact ⟨by omega, ⟨fun _ => ⟨k, by omega, e.symm⟩, fun _ => by omega⟩⟩
    · rw [if_neg e]
      refine ⟨ih.1, ih.2.trans ⟨fun ⟨i, h1, h2⟩ => ⟨i, by omega, h2⟩, fun ⟨i, h1, h2⟩ => ⟨i, ?_, h2⟩⟩⟩
      by_cases e2 : i = k
      · subst e2; exact absurd h2.symm e
      · omega
theorem rowP_mask {ls : List Int} {n : Nat} (hr : ∀ k, k < ls.length → 0 ≤ nthI ls k ∧ nthI ls k < (n : Int)) : rmk (rowP ls ls.length) n = bitsL ls ls.length := by
  apply Nat.eq_of_testBit_eq
  intro j
  rw [rmk_bit, Bool.eq_iff_iff, bitsL_bit, Bool.and_eq_true, decide_eq_true_eq, decide_eq_true_eq, (rowP_one ls j ls.length).2]
  constructor
  · exact fun h => h.2
  · rintro ⟨i, h1, h2⟩
    exact ⟨by have := hr i h1; omega, i, h1, h2⟩
theorem rowX_mask {n : Nat} {xs : List Blk} (hs : isSys n xs) {i : Nat} (hi : i < xs.length) : rmk (rowX xs i) n = mkF xs i := by
  have hg := (hs.2.2.1 i hi).1
  have hb := good_bd hg
  apply Nat.eq_of_testBit_eq
  intro j
  unfold mkF
  rw [rmk_bit, maskB_bit hg, Bool.eq_iff_iff, Bool.and_eq_true, decide_eq_true_eq, decide_eq_true_eq, has_iff]
  unfold rowX
  simp only [rowG, upd, el]
  constructor
  · rintro ⟨h1, h2⟩
    (repeat' split at h2) <;> first | omega | simp_all
  · intro h
    refine ⟨by omega, ?_⟩
    (repeat' split) <;> first | omega | (simp_all; omega) | simp_all
/-- a system's rows and one more -/
def rowW (xs : List Blk) (ls : List Int) : Nat → Nat → Int := fun i => if i = xs.length then rowP ls ls.length else rowX xs i
theorem word_rank {n : Nat} {xs : List Blk} {ls : List Int} (hs : isSys n xs) (hr : ∀ k, k < ls.length → 0 ≤ nthI ls k ∧ nthI ls k < (n : Int)) :
    (rkS 2 (xs.length + 1) (rowW xs ls) n).2 = (rkS 2 xs.length (rowW xs ls) n).2 ↔ spF (mkF xs) xs.length (bitsL ls ls.length) = true := by
  rw [rk_word (fun i _ k _ => by
    unfold rowW
    split
    · exact (rowP_one ls k ls.length).1
    · exact rowX_rng xs (.inl rfl) i k)]
  have e1 : rmk (rowW xs ls xs.length) n = bitsL ls ls.length := by unfold rowW; rw [if_pos rfl]; exact rowP_mask hr
  rw [e1]
  have e2 : ∀ s, spF (fun i => rmk (rowW xs ls i) n) xs.length s = spF (mkF xs) xs.length s := by
    have key : ∀ k, k ≤ xs.length → ∀ s, spF (fun i => rmk (rowW xs ls i) n) k s = spF (mkF xs) k s := by
      intro k
      induction k with
      | zero => intro _ s; rfl
      | succ k ih =>
        intro hk s
        have e : rmk (rowW xs ls k) n = mkF xs k := by unfold rowW; rw [if_neg (by omega)]; exact rowX_mask hs (by omega)
        rw [spF, spF, ih (by omega), ih (by omega), e]
    exact key _ (Nat.le_refl _)
  rw [e2]
theorem Mb.congrX {w : World} {B k v : Nat} {u : Value} {P : Nat → Nat} {X Y : Nat → Nat → Int} (h : Mb w B u k v P X) (e : ∀ i, i < k → X i = Y i) : Mb w B u k v P Y := ⟨h.1, fun i hi => by rw [← e i hi]; exact h.2.1 i hi, h.2.2⟩
/-- one more row, older than the others -/
theorem Mb.pushOld {w w1 w2 : World} {B B0 k v p : Nat} {u v2 : Value} {P : Nat → Nat} {X : Nat → Nat → Int} (h : Mb w B u k v P X) (hp : p < B) (hb0 : B0 ≤ p) (hb : Below w.heap.size w w1) (hr : Va w1 p v (X k)) (hg : w1.grownBy w2 u.ownBlock)
    (ho : w2.ownsRow B 42 1 v2 (k + 1) (((List.range k).map fun i => Value.slice (some ⟨P i, 0, none⟩) v v) ++ [.slice (some ⟨p, 0, none⟩) v v])) (hat : v2.ownBlock = u.ownBlock ∨ v2.ownBlock = some w1.heap.size) : ∃ Q, Mb w2 B0 v2 (k + 1) v Q X := by
  have hold : ∀ i, i < k → P i < w.heap.size := fun i hi => (h.2.1 i hi).lt
  have holdu : ∀ b, u.ownBlock = some b → B ≤ b ∧ b < w.heap.size := fun b e => h.1.lt b e
  have hpl := hr.lt
  have keep : ∀ q F, Va w1 q v F → u.ownBlock ≠ some q → Va w2 q v F := fun q F hF hne => (hg.block q hF.lt (fun e => hne e.symm)).trans hF
  have nown : ∀ q, q < w1.heap.size → u.ownBlock ≠ some q → v2.ownBlock ≠ some q := by
    intro q hq hne
    rcases hat with e | e
    · rw [e]; exact hne
    · rw [e]; intro e2; simp only [Option.some.injEq] at e2; omega
  have hup : u.ownBlock ≠ some p := fun e => by have := holdu p e; omega
  have hsz := hb.size
  refine ⟨updA P k p, ?_, fun i hi => ?_, fun i hi => ?_, fun i j hi hj hne => ?_⟩
  · have e : (List.range (k + 1)).map (fun i => Value.slice (some ⟨updA P k p i, 0, none⟩) v v) = ((List.range k).map fun i => Value.slice (some ⟨P i, 0, none⟩) v v) ++ [.slice (some ⟨p, 0, none⟩) v v] := by
      rw [List.range_succ, List.map_append]
      congr 1
      · refine List.map_congr_left fun i hi => ?_
        rw [updA_ne _ _ (by have := List.mem_range.1 hi; omega)]
      · simp [updA_same]
    rw [e]; exact own_base ho (by omega)
  · by_cases e : i = k
    · subst e; rw [updA_same]; exact keep p _ hr hup
    · rw [updA_ne _ _ e]; exact keep _ _ ((h.2.1 i (by omega)).below hb) (h.2.2.1 i (by omega)).1
  · by_cases e : i = k
    · subst e; rw [updA_same]; exact ⟨nown p hpl hup, hb0⟩
    · rw [updA_ne _ _ e]
      have h1 := h.2.2.1 i (by omega)
      exact ⟨nown _ (by have := hold i (by omega); omega) h1.1, by omega⟩
  · by_cases e : i = k
    · subst e; rw [updA_same, updA_ne _ _ (Ne.symm hne)]
      have := (h.2.2.1 j (by omega)).2; omega
    · rw [updA_ne _ _ e]
      by_cases e2 : j = k
      · subst e2; rw [updA_same]; have := (h.2.2.1 i (by omega)).2; omega
      · rw [updA_ne _ _ e2]; exact h.2.2.2 i j (by omega) (by omega) hne
theorem specIw_any (v : Int) (A : Option Addr) (c : Nat) (xs : List Blk) (B : Option Addr) (d : Nat) (ls : List Int) (w : World) (hA : Bl w A xs) (hl : xs.length ≤ 1048576) (hB : Il w B ls) (hlb : ls.length ≤ 1048576) :
    Calls Try.prog 25 #[.agg #[.int .i64 v, .slice A xs.length c], .slice B ls.length d] w fun e w' => e = .returned (.tuple #[.bool (iwR v xs ls).1, .int .i64 (iwR v xs ls).2]) ∧ Below w.heap.size w w' := by
  obtain ⟨li0, hli, hli0, hli1, hli2⟩ := info_parts infoRow2
  have HB := Lib.hid hB; clear hB
  by_cases hK : spnCode v xs ls = 0
  · obtain ⟨n, rfl⟩ := Int.eq_ofNat_of_zero_le (spn_nat hK)
    have HN : Hid (iwR n xs ls = (spF (mkF xs) xs.length (bitsL ls ls.length), 0)) := by unfold Hid iwR; rw [if_neg (by simpa using hK)]
    obtain ⟨hs, hr, hb⟩ := word_rng hK
    have hv := hs.1
    have HS := Lib.hid hs
    have hx35 := hs.2.1
    have HRG := Lib.hid hr
    have HWR := Lib.hid (word_rank hs hr)
    have HK := Lib.hid hK
    have hmk : ∀ W' : World, (Instr.makeSlice 42 (.int .i64 (n : Int)) (.int .i64 (n : Int))).run Try.prog W' = .ok (.slice (some ⟨W'.heap.size, 0, none⟩) n n) (W'.alloc (.cells (icells n (fun _ => 0)) 2)) := fun W' => by
      have := make_ints2 n W' (by omega) (by omega)
      simpa using this
    generalize iwR n xs ls = R at *
    clear hs hr hb hK
    have HA := Lib.hid hA; clear hA; have HR := Lib.hid (Row.box w 30 (.int .i64 n) (.slice A xs.length c)); have HW := Lib.hid (Since.refl w); go_enter Try.func25, Try.ntmps25; go_wp2_with fail; replace HA := Lib.hid (HA.out.below (below_alloc _ (.cells #[.int .i64 n, .slice A xs.length c] 30))); replace HW := Lib.hid (HW.out.below (below_alloc _ (.cells #[.int .i64 n, .slice A xs.length c] 30))); replace HB := Lib.hid (HB.out.below (below_alloc _ (.cells #[.int .i64 n, .slice A xs.length c] 30)))
    refine (l01Set_any n A c xs B d ls _ HA.out hl HB.out hlb).mono ?_; rw [HK.out]; rintro e w_ ⟨rfl, hb⟩; replace HA := Lib.hid (HA.out.below hb); replace HB := Lib.hid (HB.out.below hb); replace HW := Lib.hid (HW.out.below hb); replace HR := Lib.hid (HR.out.below hb); clear hb; (try clear c0 c1); obtain ⟨c0, c1⟩ := HR.out.c2
    have HV0 : Hid (Va (w_.alloc (.cells (icells n (fun _ => 0)) 2)) w_.heap.size n (rowP ls 0)) := Row.new _ _ _
    have HBA := Lib.hid (below_alloc w_ (.cells (icells n (fun _ => 0)) 2))
    obtain ⟨g, hg⟩ : ∃ g, g = w_.heap.size := ⟨_, rfl⟩
    have HG := Lib.hid hg
    have hrl := HR.out.lt
    go_wp2
    rw [← hg]
    rw [← hg] at HV0
    clear hg hmk c0 c1
    go_loopw [8] (fun i wr => ∃ k : Nat, k ≤ ls.length ∧ i = .int .i64 k ∧ Hid (Below w_.heap.size w_ wr ∧ Va wr g n (rowP ls k) ∧ g < wr.heap.size)) (fun i _ => ls.length - (intOf i).toNat)
    case atStart => exact ⟨0, by omega, rfl, HBA.out, HV0.out, HV0.out.lt⟩
    case round =>
      obtain ⟨k, hk, rfl, HC⟩ := hrel
      by_cases hlt : k < ls.length
      · obtain ⟨b1, o1, hA1, hb1, p0⟩ := (HB.out.below HC.out.1).at_ hlt
        subst hA1
        have hr1 := HRG.out k hlt
        have HRP : Hid (rowP ls (k + 1) = upd (rowP ls k) (nthI ls k).toNat 1) := rfl
        obtain ⟨j, hj⟩ := Int.eq_ofNat_of_zero_le hr1.1
        rw [hj] at p0 hr1 HRP
        have q0 := HC.out.2.1.cell (i := j) (by omega)
        have qf := HC.out.2.1.frozen j
        have ql := HC.out.2.1.lt
        have HV2 : Hid (Va (wr.setCell ⟨g, j, none⟩ (.int .i64 1)) g n (rowP ls (k + 1))) := by rw [HRP.out, Int.toNat_natCast]; exact HC.out.2.1.set j 1
        have HB2 := Lib.hid (HC.out.1.setCell (p := ⟨g, j, none⟩) (by rw [HG.out]; exact Nat.le_refl _) (.int .i64 1))
        have HL2 : Hid (g < (wr.setCell ⟨g, j, none⟩ (.int .i64 1)).heap.size) := HV2.out.lt
        go_wp2
        go_roundw
        case rel => exact ⟨k + 1, by omega, by go_num, HB2.out, HV2.out, HL2.out⟩
        case measure => simp [intOf]; omega
      · obtain rfl : k = ls.length := by omega
        have HBW := Lib.hid HC.out.1
        have HVW := Lib.hid HC.out.2.1
        have hgl := HC.out.2.2
        clear HC
        have HKEEP := Lib.hid (HR.out.below HBW.out).c2
        have HBB : Hid (∀ W, Below w_.heap.size w_ W → (W.cell? ⟨w.heap.size, 0, none⟩ = some (.int .i64 n) ∧ W.cell? ⟨w.heap.size, 1, none⟩ = some (.slice A xs.length c))) := fun W hb => (HR.out.below hb).c2
        have HGD : Hid (∀ i, i < xs.length → goodB n (nth xs i) = true) := fun i hi => (HS.out.2.2.1 i hi).1
        have HCX : Hid (∀ i, i < xs.length → rowX xs i = rowW xs ls i) := fun i hi => by unfold rowW; rw [if_neg (by omega)]
        have HVX : Hid (Va wr g n (rowW xs ls xs.length)) := by unfold rowW; rw [if_pos rfl]; exact HVW.out
        have HX0 : Hid (∀ i, i < xs.length + 1 → ∀ k, k < n → 0 ≤ rowW xs ls i k ∧ rowW xs ls i k < 2) := fun i _ k _ => by
          unfold rowW
          split
          · exact (rowP_one ls k ls.length).1
          · exact rowX_rng xs (.inl rfl) i k
        have HX1 : Hid (∀ i, i < xs.length → ∀ k, k < n → 0 ≤ rowW xs ls i k ∧ rowW xs ls i k < 2) := fun i hi k hk => HX0.out i (by omega) k hk
        have HEQ : Hid (((((rkS 2 (xs.length + 1) (rowW xs ls) n).2 : Nat) : Int) == (((rkS 2 xs.length (rowW xs ls) n).2 : Nat) : Int)) = spF (mkF xs) xs.length (bitsL ls ls.length)) := by
          unfold Hid
          rw [Bool.eq_iff_iff, beq_iff_eq, ← HWR.out]
          omega
        have hwg : w_.heap.size ≤ g := Nat.le_of_eq HG.out.symm
        have hbz : w_.heap.size ≤ wr.heap.size := HBW.out.size
        have HA5 := Lib.hid (HA.out.below HBW.out)
        have hn15 : n ≤ 15 := by omega
        have hbw := HBW.out
        clear HVW HWR HRG
        generalize hr1 : (rkS 2 (xs.length + 1) (rowW xs ls) n).2 = r1 at *
        generalize hr2 : (rkS 2 xs.length (rowW xs ls) n).2 = r2 at *
        have HR1 : Hid (∀ (u : Value) (P : Nat → Nat) (W : World), Mb W w_.heap.size u (xs.length + 1) n P (rowW xs ls) → Calls Try.prog 53 #[u, .int .i64 2] W fun e w' => e = .returned (.int .i64 (r1 : Nat)) ∧ Below w_.heap.size W w') := fun u P W hM => by
          have := l09RankU_any w_.heap.size (xs.length + 1) n 2 u P (rowW xs ls) W hM (by omega) hn15 (.inl rfl) HX0.out
          rw [hr1] at this; exact this
        have HR2 : Hid (∀ (u : Value) (P : Nat → Nat) (W : World), Mb W w_.heap.size u xs.length n P (rowW xs ls) → Calls Try.prog 53 #[u, .int .i64 2] W fun e w' => e = .returned (.int .i64 (r2 : Nat)) ∧ Below w_.heap.size W w') := fun u P W hM => by
          have := l09RankU_any w_.heap.size xs.length n 2 u P (rowW xs ls) W hM (by omega) hn15 (.inl rfl) HX1.out
          rw [hr2] at this; exact this
        clear hr1 hr2 HX0 HX1
        have HBR : Hid (∀ W, Below wr.heap.size wr W → (W.cell? ⟨w.heap.size, 0, none⟩ = some (.int .i64 n) ∧ W.cell? ⟨w.heap.size, 1, none⟩ = some (.slice A xs.length c))) := fun W hb => HBB.out W (below_up HBW.out hb)
        clear hbw
        go_wp2
        go_region_held3 (fun w' => w'.cell? ⟨w.heap.size, 0, none⟩ = some (.int .i64 n) ∧ w'.cell? ⟨w.heap.size, 1, none⟩ = some (.slice A xs.length c)) (first | exact HKEEP.out | (refine HBR.out _ ?_; (repeat' (first | (with_reducible exact Below.refl _ _) | (with_reducible assumption) | (with_reducible refine below_drewN ?_ _) | (with_reducible refine Below.drew ?_) | (with_reducible refine Below.alloc ?_ ?_ _) | (with_reducible refine Below.setCell ?_ ?_ _) | go_size)); done)) (first
          | (go_at_call 54
             fail_if_success (have T0 : HM1 = HM1 := rfl)
             refine (specRows_any n A c xs _ (HA5.out.below (by (repeat' (first | (with_reducible exact Below.refl _ _) | (with_reducible assumption) | (with_reducible refine below_drewN ?_ _) | (with_reducible refine Below.drew ?_) | (with_reducible refine Below.alloc ?_ ?_ _) | (with_reducible refine Below.setCell ?_ ?_ _) | go_size)))) hl hn15 HGD.out).mono ?_
             rintro e w3 ⟨u, P, rfl, hM, hb⟩
             have HM1 : Hid (Mb w3 wr.heap.size u xs.length n P (rowW xs ls)) := (hM.base (by simp)).congrX HCX.out
             have HB3 : Hid (Below wr.heap.size wr w3) := below_up (by (repeat' (first | (with_reducible exact Below.refl _ _) | (with_reducible assumption) | (with_reducible refine below_drewN ?_ _) | (with_reducible refine Below.drew ?_) | (with_reducible refine Below.alloc ?_ ?_ _) | (with_reducible refine Below.setCell ?_ ?_ _) | go_size))) hb
             have HP3 := Lib.hid hb
             have HO1 : Hid (w3.ownsRow wr.heap.size 42 1 u xs.length ((List.range xs.length).map fun i => Value.slice (some ⟨P i, 0, none⟩) n n)) := HM1.out.1
             have HV3 := Lib.hid (HVX.out.below HB3.out)
             replace HKEEP := Lib.hid (HBB.out _ (below_up HBW.out HB3.out))
             have hs3 := HB3.out.size
             have hb3 := HB3.out
             clear hM hb)
          | (refine step_append_at _ (by rfl) _ _ 61 (by rfl) wr.heap.size 42 li0 (.slice none 0 0) 1 24 Try.underlying61 hli hli0 hli1 hli2 rfl (by decide) _ _ _ (by rfl) (HO1.out.alloc _) ⟨w3.heap.size, 0, none⟩ 1 1 [.slice (some ⟨g, 0, none⟩) n n] (by rfl) rfl (cells_new _ _ _) (by simp [Value.oneCell']) (by unfold maxLen; omega) (by omega) (by simp; omega) ?_
             intro v9 w9 hown9 hg9 hat9
             obtain ⟨Q, hQ⟩ := Mb.pushOld HM1.out hgl hwg (below_alloc w3 _) (HV3.out.below (below_alloc w3 _)) hg9 hown9 hat9
             have HQ := Lib.hid hQ
             have HB9 : Hid (Below w_.heap.size w_ w9) := ((below_up HBW.out HB3.out).alloc (by omega) _).grown hg9 (by simp; omega) (fun q e => Nat.le_trans hbz (own_block HO1.out q e))
             replace HKEEP := Lib.hid (HBB.out _ HB9.out)
             clear hown9 hg9 hat9 hQ)
          | (refine step_append_at _ (by rfl) _ _ 61 (by rfl) wr.heap.size 42 li0 (.slice none 0 0) 1 24 Try.underlying61 hli hli0 hli1 hli2 rfl (by decide) _ _ _ (by rfl) HO1.out ⟨wr.heap.size, 0, none⟩ 1 1 [.slice (some ⟨g, 0, none⟩) n n] (by rfl) rfl (cells_old HP3.out (by first | (simp; done) | omega) (cells_new wr _ _)) (by simp [Value.oneCell']) (by unfold maxLen; omega) (by omega) (by omega) ?_
             intro v9 w9 hown9 hg9 hat9
             obtain ⟨Q, hQ⟩ := Mb.pushOld HM1.out hgl hwg (Below.refl _ _) HV3.out hg9 hown9 hat9
             have HQ := Lib.hid hQ
             have HB9 : Hid (Below w_.heap.size w_ w9) := (below_up HBW.out HB3.out).grown hg9 (by omega) (fun q e => Nat.le_trans hbz (own_block HO1.out q e))
             replace HKEEP := Lib.hid (HBB.out _ HB9.out)
             clear hown9 hg9 hat9 hQ)
          | (go_at_call 53
             fail_if_success (have T0 : HRK = HRK := rfl)
             refine (HR1.out _ Q _ HQ.out).mono ?_
             rintro e w10 ⟨rfl, hb⟩
             have HRK : Hid (Below w_.heap.size w_ w10) := HB9.out.trans hb
             have hs10 := HRK.out.size
             replace HKEEP := Lib.hid (HBB.out _ HRK.out)
             clear hb)
          | (go_at_call 54
             refine (specRows_any n A c xs _ (HA.out.below HRK.out) hl hn15 HGD.out).mono ?_
             rintro e w11 ⟨u2, P2, rfl, hM, hb⟩
             have HM2 : Hid (Mb w11 w_.heap.size u2 xs.length n P2 (rowW xs ls)) := (hM.base hs10).congrX HCX.out
             have HB11 : Hid (Below w_.heap.size w_ w11) := below_up HRK.out hb
             replace HKEEP := Lib.hid (HBB.out _ HB11.out)
             clear hM hb)
          | (go_at_call 53
             refine (HR2.out _ P2 _ HM2.out).mono ?_
             rintro e w12 ⟨rfl, hb⟩
             have HB12 : Hid (Below w_.heap.size w_ w12) := HB11.out.trans hb
             replace HKEEP := Lib.hid (HBB.out _ HB12.out)
             clear hb))
        all_goals
          go_wp2
          go_ret2
          exact ⟨by rw [HN.out, ← HEQ.out]; rfl, HW.out.below HB12.out⟩
  · have HN : Hid (iwR v xs ls = (false, spnCode v xs ls)) := by unfold Hid iwR; rw [if_pos hK]
    have hK1 : (spnCode v xs ls != 0) = true := by simpa using hK
    have hK2 : (spnCode v xs ls == 0) = false := by simpa using hK
    generalize iwR v xs ls = R at *
    have HA := Lib.hid hA; clear hA; have HR := Lib.hid (Row.box w 30 (.int .i64 v) (.slice A xs.length c)); have HW := Lib.hid (Since.refl w); go_enter Try.func25, Try.ntmps25; go_wp2_with fail; replace HA := Lib.hid (HA.out.below (below_alloc _ (.cells #[.int .i64 v, .slice A xs.length c] 30))); replace HW := Lib.hid (HW.out.below (below_alloc _ (.cells #[.int .i64 v, .slice A xs.length c] 30))); replace HB := Lib.hid (HB.out.below (below_alloc _ (.cells #[.int .i64 v, .slice A xs.length c] 30)))
    refine (l01Set_any v A c xs B d ls _ HA.out hl HB.out hlb).mono ?_; rintro e w_ ⟨rfl, hb⟩; replace HW := Lib.hid (HW.out.below hb); clear hb
    go_wp2
    go_ret2
    exact ⟨by rw [HN.out]; rfl, HW.out⟩

end Go.Proofs.Ytbknpflbafjblaa
