/- Plain laws and contracts, part 7; conditions: stated in each. -/
import Derived.Test.YtgbkonnmjmlalaaB1
import Derived.Test.YtgbkonnmjmlalaaB2
import Derived.Test.YtgbkonnmjmlalaaB3
import Derived.Test.YtgbkonnmjmlalaaB6
set_option linter.unusedSimpArgs false
set_option linter.unusedVariables false
/- Plain laws of the action of automorphisms on blocks; conditions: stated in each. -/
namespace Go.Proofs.Ytgbkonnmjmlalaa

theorem in_uniq0 {v : Int} {xs : List Blk} (hs : isSys v xs) {i j : Nat} (hij : i < j) (hj : j < xs.length) {p q : Int} (hne : p ≠ q) (h1 : hasB (nth xs i) p = true) (h2 : hasB (nth xs i) q = true) (h3 : hasB (nth xs j) p = true) (h4 : hasB (nth xs j) q = true) : False := by
  have hc := hs.2.2.2 j hj i hij
  rw [comI_two (hs.2.2.1 j hj).1 (hs.2.2.1 i (by omega)).1] at hc
  obtain ⟨c1, c2, c3⟩ := hc
  have hin : ∀ {x y : Int}, hasB (nth xs i) x = true → hasB (nth xs i) y = true → x ≠ y → inB (nth xs i) x y = true := fun a b c => inB_iff.2 ⟨c, a, b⟩
  rcases has_iff.1 h3 with rfl | rfl | rfl <;> rcases has_iff.1 h4 with rfl | rfl | rfl
  · exact hne rfl
  · rw [hin h1 h2 hne] at c1; cases c1
  · rw [hin h1 h2 hne] at c2; cases c2
  · rw [hin h2 h1 (Ne.symm hne)] at c1; cases c1
  · exact hne rfl
  · rw [hin h1 h2 hne] at c3; cases c3
  · rw [hin h2 h1 (Ne.symm hne)] at c2; cases c2
  · rw [hin h2 h1 (Ne.symm hne)] at c3; cases c3
  · exact hne rfl
theorem in_uniq {v : Int} {xs : List Blk} (hs : isSys v xs) {i j : Nat} (hi : i < xs.length) (hj : j < xs.length) {p q : Int} (hne : p ≠ q) (h1 : hasB (nth xs i) p = true) (h2 : hasB (nth xs i) q = true) (h3 : hasB (nth xs j) p = true) (h4 : hasB (nth xs j) q = true) : i = j := by
  rcases Nat.lt_trichotomy i j with h | h | h
  · exact (in_uniq0 hs h hj hne h1 h2 h3 h4).elim
  · exact h
  · exact (in_uniq0 hs h hi hne h3 h4 h1 h2).elim

def mIm (L : List Int) (x : Int) : Int := ((im L x.toNat : Nat) : Int)
theorem has_rng {n : Nat} {xs : List Blk} (hs : isSys n xs) {i : Nat} (hi : i < xs.length) {x : Int} (hx : hasB (nth xs i) x = true) : x = ((x.toNat : Nat) : Int) ∧ x.toNat < n := by
  have hg := good_bd (hs.2.2.1 i hi).1
  rcases has_iff.1 hx with rfl | rfl | rfl <;> omega
theorem mIm_inj {n : Nat} {xs : List Blk} (hs : isSys n xs) {L : List Int} (hA : Aut n (thN xs) L) {i : Nat} (hi : i < xs.length) {x y : Int} (hx : hasB (nth xs i) x = true) (hy : hasB (nth xs i) y = true) (h : mIm L x = mIm L y) : x = y := by
  obtain ⟨a1, a2⟩ := has_rng hs hi hx
  obtain ⟨b1, b2⟩ := has_rng hs hi hy
  have hl := hA.l
  have := hA.v.inj x.toNat y.toNat (by omega) (by omega) (by unfold mIm at h; omega)
  omega
theorem blk_pts {n : Nat} {xs : List Blk} (hs : isSys n xs) (hf : fullB n xs = true) {L : List Int} (hA : Aut n (thN xs) L) {i : Nat} (hi : i < xs.length) : ∃ j, j < xs.length ∧ ∀ x, hasB (nth xs i) x = true → hasB (nth xs j) (mIm L x) = true := by
  have hg := good_bd (hs.2.2.1 i hi).1
  have hl := hA.l
  have k0 : hasB (nth xs i) (nth xs i).1 = true := has_iff.2 (.inl rfl)
  have k1 : hasB (nth xs i) (nth xs i).2.1 = true := has_iff.2 (.inr (.inl rfl))
  have e := third_of hs hi (p := (nth xs i).1) (q := (nth xs i).2.1) (by omega) k0 k1
  generalize nth xs i = b at *
  obtain ⟨b0, b1, b2⟩ := b
  simp only at hg e k0 k1
  obtain ⟨n0, rfl⟩ := Int.eq_ofNat_of_zero_le (by omega : 0 ≤ b0)
  obtain ⟨n1, rfl⟩ := Int.eq_ofNat_of_zero_le (by omega : 0 ≤ b1)
  obtain ⟨n2, rfl⟩ := Int.eq_ofNat_of_zero_le (by omega : 0 ≤ b2)
  have e1 : thN xs n0 n1 = n2 := by simp only [sumB] at e; unfold thN; omega
  have r0 := (hA.v.rng n0 (by omega)).1
  have r1 := (hA.v.rng n1 (by omega)).1
  have hne : im L n0 ≠ im L n1 := fun h => by have := hA.v.inj n0 n1 (by omega) (by omega) h; omega
  obtain ⟨j, hj, hin⟩ := full_cov hs hf (p := im L n0) (q := im L n1) (by omega) (by omega) hne
  refine ⟨j, hj, fun x hx => ?_⟩
  obtain ⟨_, c0, c1⟩ := inB_iff.1 hin
  have h4 := in_third (hs.2.2.1 j hj).1 hin
  have e2 := third_of hs hj (p := im L n0) (q := im L n1) (by omega) c0 c1
  have e3 := hA.v.hom n0 n1 (by omega) (by omega) (by omega) (by omega)
  rw [e1] at e3
  have e4 : ((im L n2 : Nat) : Int) = sumB (nth xs j) - im L n0 - im L n1 := by rw [← e3, ← e2]; unfold thN; omega
  unfold mIm
  rcases has_iff.1 hx with rfl | rfl | rfl
  · exact c0
  · exact c1
  · show hasB (nth xs j) ((im L n2 : Nat) : Int) = true
    rw [e4]; exact h4.2.2
/-- the number of a block's image -/
noncomputable def blkA (xs : List Blk) (L : List Int) (i : Nat) : Nat := open Classical in if h : ∃ j, j < xs.length ∧ ∀ x, hasB (nth xs i) x = true → hasB (nth xs j) (mIm L x) = true then Classical.choose h else 0
theorem blkA_is {n : Nat} {xs : List Blk} (hs : isSys n xs) (hf : fullB n xs = true) {L : List Int} (hA : Aut n (thN xs) L) {i : Nat} (hi : i < xs.length) : blkA xs L i < xs.length ∧ ∀ x, hasB (nth xs i) x = true → hasB (nth xs (blkA xs L i)) (mIm L x) = true := by
  have h := blk_pts hs hf hA hi
  unfold blkA
  rw [dif_pos h]
  exact Classical.choose_spec h
theorem blkA_eq {n : Nat} {xs : List Blk} (hs : isSys n xs) (hf : fullB n xs = true) {L : List Int} (hA : Aut n (thN xs) L) {i j : Nat} (hi : i < xs.length) (hj : j < xs.length) {x y : Int} (hne : x ≠ y) (hx : hasB (nth xs i) x = true) (hy : hasB (nth xs i) y = true) (h1 : hasB (nth xs j) (mIm L x) = true) (h2 : hasB (nth xs j) (mIm L y) = true) : blkA xs L i = j := by
  obtain ⟨k1, k2⟩ := blkA_is hs hf hA hi
  exact in_uniq hs k1 hj (fun h => hne (mIm_inj hs hA hi hx hy h)) (k2 x hx) (k2 y hy) h1 h2
theorem blk_has {b : Blk} : hasB b b.1 = true ∧ hasB b b.2.1 = true ∧ hasB b b.2.2 = true := ⟨has_iff.2 (.inl rfl), has_iff.2 (.inr (.inl rfl)), has_iff.2 (.inr (.inr rfl))⟩
/-- a block's image in order -/
def ordB (p q r : Int) : Blk := (min (min p q) r, p + q + r - min (min p q) r - max (max p q) r, max (max p q) r)
theorem ordB_is {n : Nat} {xs : List Blk} (hs : isSys n xs) (hf : fullB n xs = true) {L : List Int} (hA : Aut n (thN xs) L) {i : Nat} (hi : i < xs.length) : nth xs (blkA xs L i) = ordB (mIm L (nth xs i).1) (mIm L (nth xs i).2.1) (mIm L (nth xs i).2.2) := by
  obtain ⟨k1, k2⟩ := blkA_is hs hf hA hi
  have hg := good_bd (hs.2.2.1 i hi).1
  have hg2 := good_bd (hs.2.2.1 _ k1).1
  obtain ⟨t0, t1, t2⟩ := blk_has (b := nth xs i)
  have a0 := has_iff.1 (k2 _ t0); have a1 := has_iff.1 (k2 _ t1); have a2 := has_iff.1 (k2 _ t2)
  have n1 : mIm L (nth xs i).1 ≠ mIm L (nth xs i).2.1 := fun h => by have := mIm_inj hs hA hi t0 t1 h; omega
  have n2 : mIm L (nth xs i).1 ≠ mIm L (nth xs i).2.2 := fun h => by have := mIm_inj hs hA hi t0 t2 h; omega
  have n3 : mIm L (nth xs i).2.1 ≠ mIm L (nth xs i).2.2 := fun h => by have := mIm_inj hs hA hi t1 t2 h; omega
  generalize mIm L (nth xs i).1 = p at *
  generalize mIm L (nth xs i).2.1 = q at *
  generalize mIm L (nth xs i).2.2 = r at *
  generalize nth xs (blkA xs L i) = b at *
  obtain ⟨b0, b1, b2⟩ := b
  simp only at *
  unfold ordB
  have : b0 = min (min p q) r ∧ b1 = p + q + r - min (min p q) r - max (max p q) r ∧ b2 = max (max p q) r := by omega
  obtain ⟨e1, e2, e3⟩ := this
  rw [← e1, ← e3]; congr 2; omega
theorem blk_onto {n : Nat} {xs : List Blk} (hs : isSys n xs) (hf : fullB n xs = true) {L : List Int} (hA : Aut n (thN xs) L) {i : Nat} (hi : i < xs.length) {x : Int} (hx : hasB (nth xs (blkA xs L i)) x = true) : ∃ y, hasB (nth xs i) y = true ∧ mIm L y = x := by
  have h := ordB_is hs hf hA hi
  have hx2 := has_iff.1 hx
  obtain ⟨t0, t1, t2⟩ := blk_has (b := nth xs i)
  rw [h] at hx2
  unfold ordB at hx2
  simp only at hx2
  have : mIm L (nth xs i).1 = x ∨ mIm L (nth xs i).2.1 = x ∨ mIm L (nth xs i).2.2 = x := by omega
  rcases this with e | e | e
  · exact ⟨_, t0, e⟩
  · exact ⟨_, t1, e⟩
  · exact ⟨_, t2, e⟩
/-- another block is another triple -/
theorem nth_ne {v : Int} {xs : List Blk} (hs : isSys v xs) {i j : Nat} (hi : i < xs.length) (hj : j < xs.length) (h : nth xs i = nth xs j) : i = j := by
  have hg := good_bd (hs.2.2.1 j hj).1
  obtain ⟨t0, t1, _⟩ := blk_has (b := nth xs j)
  exact in_uniq hs hi hj (p := (nth xs j).1) (q := (nth xs j).2.1) (by omega) (by rw [h]; exact t0) (by rw [h]; exact t1) t0 t1

/-! The table of the numbers of blocks. -/
def TB (xs : List Blk) (k : Nat) (F : Nat → Int) : Prop := ∀ j, j < k → ∀ p q : Int, hasB (nth xs j) p = true → hasB (nth xs j) q = true → p ≠ q → F (p.toNat * 15 + q.toNat) = j
def TBi (xs : List Blk) (k : Nat) (b : Blk) (a c : Nat) (F : Nat → Int) : Prop := TB xs k F ∧ ∀ a' c', a' < 3 → c' < 3 → (a' < a ∨ a' = a ∧ c' < c) → F ((el b a').toNat * 15 + (el b c').toNat) = k
theorem tbi_start {xs : List Blk} {k : Nat} {b : Blk} {F : Nat → Int} (h : TB xs k F) : TBi xs k b 0 0 F := ⟨h, fun a' c' _ _ hh => by omega⟩
theorem tbi_row {xs : List Blk} {k a : Nat} {b : Blk} {F : Nat → Int} (h : TBi xs k b a 3 F) : TBi xs k b (a + 1) 0 F := ⟨h.1, fun a' c' h1 h2 hh => h.2 a' c' h1 h2 (by omega)⟩
theorem has_el {b : Blk} {a : Nat} : hasB b (el b a) = true := by
  unfold el
  split
  · exact has_iff.2 (.inl rfl)
  · split
    · exact has_iff.2 (.inr (.inl rfl))
    · exact has_iff.2 (.inr (.inr rfl))
theorem el_of {b : Blk} {p : Int} (h : hasB b p = true) : ∃ a, a < 3 ∧ el b a = p := by
  rcases has_iff.1 h with rfl | rfl | rfl
  · exact ⟨0, by omega, rfl⟩
  · exact ⟨1, by omega, rfl⟩
  · exact ⟨2, by omega, rfl⟩
theorem tbi_end {xs : List Blk} {k : Nat} {F : Nat → Int} (h : TBi xs k (nth xs k) 3 0 F) : TB xs (k + 1) F := by
  intro j hj p q hp hq hne
  by_cases e : j = k
  · subst e
    obtain ⟨a, ha, rfl⟩ := el_of hp
    obtain ⟨c, hc, rfl⟩ := el_of hq
    exact h.2 a c ha hc (by omega)
  · exact h.1 j (by omega) p q hp hq hne
theorem tbi_step {n : Nat} {xs : List Blk} (hs : isSys n xs) {k a c : Nat} (hk : k < xs.length) (ha : a < 3) (hc : c < 3) {b : Blk} (hb : nth xs k = b) {F : Nat → Int} (h : TBi xs k b a c F) : TBi xs k b a (c + 1) (upd F ((el b a).toNat * 15 + (el b c).toNat) (k : Int)) := by
  subst hb
  have h15 := hs.1.2
  obtain ⟨ea, ra⟩ := has_rng hs hk (has_el (a := a))
  obtain ⟨ec, rc⟩ := has_rng hs hk (has_el (a := c))
  refine ⟨fun j hj p q hp hq hne => ?_, fun a' c' h1 h2 hh => ?_⟩
  · obtain ⟨ep, rp⟩ := has_rng hs (i := j) (by omega) hp
    obtain ⟨eq, rq⟩ := has_rng hs (i := j) (by omega) hq
    unfold upd
    by_cases e : p.toNat * 15 + q.toNat = (el (nth xs k) a).toNat * 15 + (el (nth xs k) c).toNat
    · exfalso
      have e1 : p = el (nth xs k) a := by omega
      have e2 : q = el (nth xs k) c := by omega
      have := in_uniq hs (i := j) (j := k) (by omega) hk hne hp hq (by rw [e1]; exact has_el) (by rw [e2]; exact has_el)
      omega
    · rw [if_neg e]; exact h.1 j hj p q hp hq hne
  · unfold upd
    split
    · rfl
    · rename_i e
      refine h.2 a' c' h1 h2 ?_
      by_cases e1 : a' = a
      · by_cases e2 : c' = c
        · subst e1; subst e2; exact absurd rfl e
        · omega
      · omega

end Go.Proofs.Ytgbkonnmjmlalaa

/- Contracts of the image of a block and of its number, of the reference and of the program; conditions: stated in each. -/
namespace Go.Proofs.Ytgbkonnmjmlalaa
open Go.RowKit
set_option maxHeartbeats 1000000
set_option maxRecDepth 100000
set_option linter.unusedSimpArgs false
set_option linter.unusedVariables false

theorem mIm_map {n : Nat} (f : Nat → Nat) {x : Int} (hx : x.toNat < n) : mIm (mapL n f) x = ((f x.toNat : Nat) : Int) := by unfold mIm; rw [mapL_im f hx]
theorem blk_eqv {n : Nat} {xs : List Blk} (hs : isSys n xs) (hf : fullB n xs = true) : Eqv (relB (blkA xs) (leadL n xs xs)) xs.length := by
  have h := sts_of hs hf
  have hne : ∀ p, p < xs.length → (nth xs p).1 ≠ (nth xs p).2.1 := fun p hp => by have := good_bd (hs.2.2.1 p hp).1; omega
  refine ⟨fun p hp => ?_, fun p q hp hq hR => ?_, fun p q r hp hq hr hR hR' => ?_⟩
  · have hA := aut_id h
    obtain ⟨t0, t1, _⟩ := blk_has (b := nth xs p)
    refine relB_iff.2 ⟨_, (aut_of hs hf).2 hA, blkA_eq hs hf hA hp hp (hne p hp) t0 t1 ?_ ?_⟩
    · obtain ⟨e, hr⟩ := has_rng hs hp t0; rw [mIm_map _ hr, ← e]; exact t0
    · obtain ⟨e, hr⟩ := has_rng hs hp t1; rw [mIm_map _ hr, ← e]; exact t1
  · obtain ⟨M, hM, e⟩ := relB_iff.1 hR
    have hA := (aut_of hs hf).1 hM
    have hB := aut_inv h hA
    obtain ⟨t0, t1, _⟩ := blk_has (b := nth xs q)
    have key : ∀ x, hasB (nth xs q) x = true → hasB (nth xs p) (mIm (mapL n (invF M n)) x) = true := by
      intro x hx
      obtain ⟨y, hy, rfl⟩ := blk_onto hs hf hA hp (x := x) (by rw [e]; exact hx)
      obtain ⟨e1, r1⟩ := has_rng hs hp hy
      obtain ⟨e2, r2⟩ := has_rng hs hq hx
      rw [mIm_map _ r2]
      obtain ⟨r3, e3⟩ := invF_is hA.v hA.l r2
      have hml := hA.l
      have e4 : invF M n (mIm M y).toNat = y.toNat := hA.v.inj _ _ (by omega) (by omega) (by rw [e3]; unfold mIm; simp)
      rw [e4, ← e1]; exact hy
    exact relB_iff.2 ⟨_, (aut_of hs hf).2 hB, blkA_eq hs hf hB hq hp (hne q hq) t0 t1 (key _ t0) (key _ t1)⟩
  · obtain ⟨M, hM, e⟩ := relB_iff.1 hR
    obtain ⟨K, hK, e'⟩ := relB_iff.1 hR'
    have hA := (aut_of hs hf).1 hM
    have hA' := (aut_of hs hf).1 hK
    have hB := aut_comp h hA' hA
    obtain ⟨t0, t1, _⟩ := blk_has (b := nth xs p)
    have key : ∀ x, hasB (nth xs p) x = true → hasB (nth xs r) (mIm (mapL n fun i => im K (im M i)) x) = true := by
      intro x hx
      obtain ⟨e1, r1⟩ := has_rng hs hp hx
      have h1 := (blkA_is hs hf hA hp).2 x hx
      rw [e] at h1
      have h2 := (blkA_is hs hf hA' hq).2 _ h1
      rw [e'] at h2
      rw [mIm_map _ r1]
      exact h2
    exact relB_iff.2 ⟨_, (aut_of hs hf).2 hB, blkA_eq hs hf hB hp hr (hne p hp) t0 t1 (key _ t0) (key _ t1)⟩

theorem l01Block_any (p q r : Nat) (w : World) (hp : p ≤ 100) (hq : q ≤ 100) (hr : r ≤ 100) :
    Calls Try.prog 76 #[.int .i64 (p : Int), .int .i64 (q : Int), .int .i64 (r : Int)] w fun e w' => e = .returned (.agg #[.int .i64 (ordB p q r).1, .int .i64 (ordB p q r).2.1, .int .i64 (ordB p q r).2.2]) ∧ Below w.heap.size w w' := by
  have HE : Hid (∀ a b c : Int, a = (ordB p q r).1 → b = (ordB p q r).2.1 → c = (ordB p q r).2.2 → Ending.returned (.agg #[.int .i64 a, .int .i64 b, .int .i64 c]) = Ending.returned (.agg #[.int .i64 (ordB p q r).1, .int .i64 (ordB p q r).2.1, .int .i64 (ordB p q r).2.2])) := fun a b c h1 h2 h3 => by rw [h1, h2, h3]
  have HO : Hid (ordB p q r = (min (min (p : Int) q) r, (p : Int) + q + r - min (min (p : Int) q) r - max (max (p : Int) q) r, max (max (p : Int) q) r)) := rfl
  generalize ordB p q r = R at *
  go_enter Try.func76, Try.ntmps76
  go_wp2
  all_goals go_returns
  all_goals (refine ⟨HE.out _ _ _ ?_ ?_ ?_, below_alloc _ _⟩ <;> rw [HO.out] <;> simp only <;> omega)

theorem l06Number_any (v : Int) (A : Option Addr) (c : Nat) (xs : List Blk) (b : Blk) (m : Nat) (w : World) (hA : Bl w A xs) (hl : xs.length ≤ 1048576) (hm : m < xs.length) (hb : nth xs m = b) (hu : ∀ i, i < m → nth xs i ≠ b) :
    Calls Try.prog 75 #[.agg #[.int .i64 v, .slice A xs.length c], .agg #[.int .i64 b.1, .int .i64 b.2.1, .int .i64 b.2.2]] w fun e w' => e = .returned (.int .i64 (m : Int)) ∧ Below w.heap.size w w' := by
  have HS := Lib.hid (Row.new w 30 #[.int .i64 v, .slice A xs.length c])
  have hx := Box.new (w.alloc (.cells #[.int .i64 v, .slice A xs.length c] 30)) b 75
  rw [World.size_alloc] at hx
  have HX := Lib.hid hx
  have hba := below_alloc (w.alloc (.cells #[.int .i64 v, .slice A xs.length c] 30)) (.cells #[.int .i64 b.1, .int .i64 b.2.1, .int .i64 b.2.2] 75)
  have HW := Lib.hid (below_up (below_alloc w (.cells #[.int .i64 v, .slice A xs.length c] 30)) hba)
  have HR : Hid (Row ((w.alloc (.cells #[.int .i64 v, .slice A xs.length c] 30)).alloc (.cells #[.int .i64 b.1, .int .i64 b.2.1, .int .i64 b.2.2] 75)) w.heap.size 30 #[.int .i64 v, .slice A xs.length c]) := HS.out.below hba
  have HA := Lib.hid (hA.below HW.out)
  have HU := Lib.hid hu
  have HB := Lib.hid hb
  clear hA hx hba HS hu hb
  go_enter Try.func75, Try.ntmps75
  go_wp2
  generalize (w.alloc _).alloc _ = W at *
  go_loopw [5] (fun i wr => ∃ k : Nat, k ≤ m ∧ i = .int .i64 k ∧ Below W.heap.size W wr) (fun i _ => m - (intOf i).toNat)
  case atStart => exact ⟨0, by omega, rfl, Below.refl _ _⟩
  case round =>
    obtain ⟨k, hk, rfl, hb⟩ := hrel
    obtain ⟨x0, x1, x2⟩ := (HX.out.below hb).three
    have hsz2 := (HX.out.below hb).1
    obtain ⟨c0, c1⟩ := (HR.out.below hb).c2
    have hlr := (HR.out.below hb).lt
    obtain ⟨b1, o1, hA1, hb1, p0, p1, p2⟩ := (HA.out.below hb).at_ (k := k) (by omega)
    subst hA1
    have hkl : (k : Int) < (xs.length : Int) := by omega
    have HE := Lib.hid (eqB_iff (a := nth xs k) (b := b))
    cases hq : eqB (nth xs k) b
    · have hkm : k < m := by
        rcases Nat.lt_or_ge k m with h | h
        · exact h
        · have : k = m := by omega
          subst this
          rw [HE.out.2 HB.out] at hq; cases hq
      go_wp2
      go_quiet (fail)
      go_wp2
      go_roundw
      case rel => exact ⟨k + 1, by omega, by go_num, below_drewN hb _⟩
      case measure => simp [intOf]; omega
    · have hkm : k = m := by
        rcases Nat.lt_or_ge k m with h | h
        · exact absurd (HE.out.1 hq) (HU.out k h)
        · omega
      subst hkm
      go_wp2
      go_quiet (fail)
      go_wp2
      go_ret
      exact ⟨rfl, below_drewN (below_up HW.out hb) _⟩

end Go.Proofs.Ytgbkonnmjmlalaa

/- Contract of the orbits of blocks, of the program; conditions: stated in each. -/
namespace Go.Proofs.Ytgbkonnmjmlalaa
open Go.RowKit
set_option maxHeartbeats 1000000
set_option maxRecDepth 100000
set_option linter.unusedSimpArgs false
set_option linter.unusedVariables false

noncomputable def bloR (v : Int) (xs : List Blk) : List (List Int) × Int := orbR v xs (blkA xs) xs.length
theorem bloR_bd (v : Int) (xs : List Blk) : (bloR v xs).1.length ≤ 1000000 ∧ (∀ k, k < (bloR v xs).1.length → (nthLL (bloR v xs).1 k).length ≤ 1073741824) ∧ offL (bloR v xs).1 (bloR v xs).1.length ≤ 100000000 := by
  unfold bloR orbR
  split
  · rename_i h
    have hv := (isSysB_iff.1 (fcode_zero h).1).2.1
    refine lists_bd (m := 35) (n := 35) ?_ (fun M hM => ?_) (by omega) (by omega)
    · have := orbL_len (relB (blkA xs) (leadL v.toNat xs xs)) xs.length xs.length
      show (orbL _ _ _).length ≤ 35
      omega
    · obtain ⟨p, _, rfl⟩ := orbL_mem hM
      have := relL_len (relB (blkA xs) (leadL v.toNat xs xs)) xs.length p
      omega
  · exact lists_bd (m := 0) (n := 0) (by simp) (fun M hM => by simp at hM) (by omega) (by omega)

theorem blkCl_any (v : Int) (n i gb ga n0 n1 p q m : Nat) (F : Nat → Int) (A B : Option Addr) (c : Nat) (xs : List Blk) (L : List Int) (W : World) (hB : Il W B L) (hL : L.length = n) (h15 : n ≤ 15) (hS : Row W gb 30 #[.int .i64 v, .slice A xs.length c]) (hG : Row W ga 79 (gcells F)) (hA : Bl W A xs) (hl : xs.length ≤ 1048576) (hi : i < xs.length)
    (h0 : (nth xs i).1 = (n0 : Int)) (h1 : (nth xs i).2.1 = (n1 : Int)) (hn0 : n0 < n) (hn1 : n1 < n) (hp : nthI L n0 = (p : Int)) (hq : nthI L n1 = (q : Int)) (hp2 : p < n) (hq2 : q < n) (hF : F (p * 15 + q) = (m : Int)) :
    Calls Try.prog 77 #[.slice B n 15, .int .i64 (i : Int), .pointer (some ⟨gb, 0, none⟩), .pointer (some ⟨ga, 0, none⟩)] W fun e w' => e = .returned (.int .i64 (m : Int)) ∧ Below W.heap.size W w' := by
  obtain ⟨b1, o1, hA1, hb1, p0, p1, p2⟩ := hA.at_ hi
  rw [h0] at p0
  rw [h1] at p1
  subst hA1
  obtain ⟨b2, o2, hB2, hb2, q0⟩ := hB.at_ (k := n0) (by omega)
  obtain ⟨b3, o3, hB3, hb3, q1⟩ := hB.at_ (k := n1) (by omega)
  subst hB2
  obtain ⟨rfl, rfl⟩ : b2 = b3 ∧ o2 = o3 := by simpa using hB3
  rw [hp] at q0
  rw [hq] at q1
  obtain ⟨c0, c1⟩ := hS.c2
  have hlb := hS.lt
  have g0 := Row.cell hG (p * 15 + q)
  rw [gcells_get F _ (by omega), hF] at g0
  have hlg := hG.lt
  have hii : (i : Int) < (xs.length : Int) := by omega
  clear hB hS hG hA hB3 hb3 hF h0 h1 hp hq
  subst hL
  go_enter Try.func77, Try.ntmps77
  go_wp2
  go_quiet (fail)
  go_wp2
  go_ret
  exact ⟨rfl, by (repeat' (first | (with_reducible exact Below.refl _ _) | (with_reducible assumption) | (with_reducible refine below_drewN ?_ _) | (with_reducible refine Below.drew ?_) | (with_reducible refine Below.alloc ?_ ?_ _) | (with_reducible refine Below.setCell ?_ ?_ _) | go_size))⟩

theorem zeroArr : Try.zeroCells79 = gcells (fun _ => 0) := by kernel_rfl
theorem implBlo_any (v : Int) (A : Option Addr) (c : Nat) (xs : List Blk) (w : World) (hA : Bl w A xs) (hl : xs.length ≤ 1048576) :
    Calls Try.prog 42 #[.agg #[.int .i64 v, .slice A xs.length c]] w (LPD w (bloR v xs).1 (bloR v xs).2) := by
  cases hs : isSysB v xs
  · have HN : Hid (bloR v xs = ([], 1)) := by unfold Hid bloR orbR fcode; rw [hs]; rfl
    generalize bloR v xs = R at *
    have HA := Lib.hid hA; clear hA; have HR := Lib.hid (Row.box w 30 (.int .i64 v) (.slice A xs.length c)); have HW := Lib.hid (Since.refl w); go_enter Try.func42, Try.ntmps42; go_wp2_with fail; replace HA := Lib.hid (HA.out.below (below_alloc _ (.cells #[.int .i64 v, .slice A xs.length c] 30))); replace HW := Lib.hid (HW.out.below (below_alloc _ (.cells #[.int .i64 v, .slice A xs.length c] 30)))
    refine (IsSystem_any v A c xs _ HA.out hl).mono ?_; rw [hs]; rintro e w_ ⟨rfl, hb⟩; replace HW := Lib.hid (HW.out.below hb); clear hb
    go_wp2
    go_ret2
    exact LPD.nil (by rw [HN.out]) (by rw [HN.out]) HW.out
  · have hsy := isSysB_iff.1 hs
    have hv := hsy.1
    have hl35 := hsy.2.1
    obtain ⟨n, rfl⟩ := Int.eq_ofNat_of_zero_le (by omega : 0 ≤ v)
    have HS := Lib.hid hsy
    have HN : Hid (bloR n xs = orbR n xs (blkA xs) xs.length) := rfl
    generalize bloR n xs = R at *
    clear hsy
    go_enter Try.func42, Try.ntmps42
    have HA := Lib.hid hA; clear hA; have HR := Lib.hid (Row.box w 30 (.int .i64 n) (.slice A xs.length c)); have HW := Lib.hid (Since.refl w)
    replace HA := Lib.hid (HA.out.below (below_alloc _ (.cells #[.int .i64 n, .slice A xs.length c] 30))); replace HW := Lib.hid (HW.out.below (below_alloc _ (.cells #[.int .i64 n, .slice A xs.length c] 30)))
    go_wp2_with fail
    refine (IsSystem_any n A c xs _ HA.out hl).mono ?_; rw [hs]; rintro e w_ ⟨rfl, hb⟩; replace HA := Lib.hid (HA.out.below hb); replace HW := Lib.hid (HW.out.below hb); replace HR := Lib.hid (HR.out.below hb); clear hb; (try clear c0 c1); obtain ⟨c0, c1⟩ := HR.out.c2
    have hlr := HR.out.lt
    have HG0 : Hid (Row (w_.alloc (.cells Try.zeroCells79 79)) w_.heap.size 79 (gcells (fun _ => 0))) := by
      rw [zeroArr]; exact Row.new w_ _ _
    have HB0 := Lib.hid (below_alloc w_ (.cells Try.zeroCells79 79))
    have HBX : Hid (∀ W, Below w_.heap.size w_ W → (W.cell? ⟨w.heap.size, 0, none⟩ = some (.int .i64 n) ∧ W.cell? ⟨w.heap.size, 1, none⟩ = some (.slice A xs.length c))) := fun W hb => (HR.out.below hb).c2
    obtain ⟨c0, c1⟩ := HBX.out _ HB0.out
    have hlr2 : w.heap.size < (w_.alloc (.cells Try.zeroCells79 79)).heap.size := by simp; omega
    go_wp2
    clear c0 c1 hlr2
    generalize w_.alloc (.cells Try.zeroCells79 79) = wA at *
    obtain ⟨ga, hga⟩ : ∃ g, w_.heap.size = g := ⟨_, rfl⟩
    rw [hga] at HG0 ⊢
    go_loopw [17] (fun i wr => ∃ k : Nat, k ≤ xs.length ∧ i = .int .i64 k ∧ Hid (Below w_.heap.size w_ wr ∧ ∃ F, Row wr ga 79 (gcells F) ∧ TB xs k F)) (fun i _ => xs.length - (intOf i).toNat)
    case atStart => exact ⟨0, by omega, rfl, HB0.out, _, HG0.out, fun j hj => by omega⟩
    case round =>
      obtain ⟨k, hk, rfl, HC⟩ := hrel
      by_cases hlt : k < xs.length
      · obtain ⟨b1, o1, hA1, hb1, p0, p1, p2⟩ := (HA.out.below HC.out.1).at_ hlt
        subst hA1
        have hg := good_bd (HS.out.2.2.1 k hlt).1
        have HBK : Hid (∃ n0 n1 n2 : Nat, nth xs k = ((n0 : Int), (n1 : Int), (n2 : Int)) ∧ n0 < 15 ∧ n1 < 15 ∧ n2 < 15) := by
          refine ⟨(nth xs k).1.toNat, (nth xs k).2.1.toNat, (nth xs k).2.2.toNat, ?_, by omega, by omega, by omega⟩
          rw [Int.toNat_of_nonneg (by omega), Int.toNat_of_nonneg (by omega), Int.toNat_of_nonneg (by omega)]
        obtain ⟨n0, n1, n2, hb, h0, h1, h2⟩ := HBK.out
        clear HBK hg
        rw [hb] at p0 p1 p2
        simp only at p0 p1 p2
        have HBk := Lib.hid hb; clear hb
        have HD : Hid (Below w_.heap.size w_ (wr.alloc (.cells #[.int .i64 n0, .int .i64 n1, .int .i64 n2] 75)) ∧ ∃ F, Row (wr.alloc (.cells #[.int .i64 n0, .int .i64 n1, .int .i64 n2] 75)) ga 79 (gcells F) ∧ TBi xs k ((n0 : Int), (n1 : Int), (n2 : Int)) 0 0 F) := by
          obtain ⟨hbb, F, hF, hT⟩ := HC.out
          exact ⟨below_up hbb (below_alloc _ _), F, hF.below (below_alloc _ _), tbi_start hT⟩
        have ix0 := idx0 (n0 : Int) n1 n2
        have ix1 := idx1 (n0 : Int) n1 n2
        have ix2 := idx2 (n0 : Int) n1 n2
        have HBXR : Hid (Row (wr.alloc (.cells #[.int .i64 (n0 : Int), .int .i64 (n1 : Int), .int .i64 (n2 : Int)] 75)) wr.heap.size 75 #[.int .i64 (n0 : Int), .int .i64 (n1 : Int), .int .i64 (n2 : Int)]) := Row.new wr _ _
        have hgx : ga < wr.heap.size := by obtain ⟨_, F, hF, _⟩ := HC.out; exact hF.lt
        go_wp2
        generalize wr.alloc (.cells #[.int .i64 (n0 : Int), .int .i64 (n1 : Int), .int .i64 (n2 : Int)] 75) = wB at *
        obtain ⟨bx, hbx⟩ : ∃ x, wr.heap.size = x := ⟨_, rfl⟩
        rw [hbx] at HBXR hgx ⊢
        have HSK : Hid (∀ a c F, a < 3 → c < 3 → TBi xs k ((n0 : Int), (n1 : Int), (n2 : Int)) a c F → TBi xs k ((n0 : Int), (n1 : Int), (n2 : Int)) a (c + 1) (upd F ((el ((n0 : Int), (n1 : Int), (n2 : Int)) a).toNat * 15 + (el ((n0 : Int), (n1 : Int), (n2 : Int)) c).toNat) (k : Int))) := fun a c F h1 h2 h => tbi_step HS.out hlt h1 h2 HBk.out h
        obtain ⟨wz, rfl⟩ : ∃ wz : World, wz = wr := ⟨_, rfl⟩
        go_loopw [23] (fun i wr => ∃ a : Nat, a ≤ 3 ∧ i = .int .i64 a ∧ Hid (Row wr bx 75 #[.int .i64 (n0 : Int), .int .i64 (n1 : Int), .int .i64 (n2 : Int)] ∧ Below w_.heap.size w_ wr ∧ ∃ F, Row wr ga 79 (gcells F) ∧ TBi xs k ((n0 : Int), (n1 : Int), (n2 : Int)) a 0 F)) (fun i _ => 3 - (intOf i).toNat)
        case atStart => exact ⟨0, by omega, rfl, HBXR.out, HD.out⟩
        case round =>
          obtain ⟨a, ha, rfl, HE⟩ := hrel
          by_cases hlt3 : a < 3
          · have d0 := HE.out.1.cell 0
            have d1 := HE.out.1.cell 1
            have d2 := HE.out.1.cell 2
            have hlx := HE.out.1.lt
            rcases (by omega : a = 0 ∨ a = 1 ∨ a = 2) with rfl | rfl | rfl
            · go_wp2
              clear d0 d1 d2 hlx
              obtain ⟨wy, rfl⟩ : ∃ wy : World, wy = wr := ⟨_, rfl⟩
              go_loopw [27] (fun i wr => ∃ e : Nat, e ≤ 3 ∧ i = .int .i64 e ∧ Hid (Row wr bx 75 #[.int .i64 (n0 : Int), .int .i64 (n1 : Int), .int .i64 (n2 : Int)] ∧ Below w_.heap.size w_ wr ∧ ∃ F, Row wr ga 79 (gcells F) ∧ TBi xs k ((n0 : Int), (n1 : Int), (n2 : Int)) 0 e F)) (fun i _ => 3 - (intOf i).toNat)
              case atStart => exact ⟨0, by omega, rfl, HE.out⟩
              case round =>
                obtain ⟨e, he, rfl, HF⟩ := hrel
                by_cases hlt4 : e < 3
                · obtain ⟨hR, hbb, F, hF, hT⟩ := HF.out
                  have hlg := hF.lt
                  have HR5 := Lib.hid (And.intro hR hbb)
                  have HF5 := Lib.hid (And.intro hF hT)
                  clear hR hbb hF hT HF
                  rcases (by omega : e = 0 ∨ e = 1 ∨ e = 2) with rfl | rfl | rfl
                  · have p5 := (HF5.out.1.cell (n0 * 15 + n0)).trans (gcells_get F (n0 * 15 + n0) (by omega))
                    have f5 := HF5.out.1.frozen (n0 * 15 + n0)
                    go_wp2
                    go_roundw
                    case rel =>
                      have h := HF5.out.1.set (n0 * 15 + n0) (.int .i64 (k : Int))
                      rw [gcells_upd] at h
                      exact ⟨1, by omega, rfl, HR5.out.1.far (p := ⟨ga, n0 * 15 + n0, none⟩) (show ga ≠ bx by omega) _, HR5.out.2.setCell (p := ⟨ga, n0 * 15 + n0, none⟩) (show w_.heap.size ≤ ga by omega) _, _, h, HSK.out 0 0 F (by omega) (by omega) HF5.out.2⟩
                    case measure => simp [intOf]
                  · have p5 := (HF5.out.1.cell (n0 * 15 + n1)).trans (gcells_get F (n0 * 15 + n1) (by omega))
                    have f5 := HF5.out.1.frozen (n0 * 15 + n1)
                    go_wp2
                    go_roundw
                    case rel =>
                      have h := HF5.out.1.set (n0 * 15 + n1) (.int .i64 (k : Int))
                      rw [gcells_upd] at h
                      exact ⟨2, by omega, rfl, HR5.out.1.far (p := ⟨ga, n0 * 15 + n1, none⟩) (show ga ≠ bx by omega) _, HR5.out.2.setCell (p := ⟨ga, n0 * 15 + n1, none⟩) (show w_.heap.size ≤ ga by omega) _, _, h, HSK.out 0 1 F (by omega) (by omega) HF5.out.2⟩
                    case measure => simp [intOf]
                  · have p5 := (HF5.out.1.cell (n0 * 15 + n2)).trans (gcells_get F (n0 * 15 + n2) (by omega))
                    have f5 := HF5.out.1.frozen (n0 * 15 + n2)
                    go_wp2
                    go_roundw
                    case rel =>
                      have h := HF5.out.1.set (n0 * 15 + n2) (.int .i64 (k : Int))
                      rw [gcells_upd] at h
                      exact ⟨3, by omega, rfl, HR5.out.1.far (p := ⟨ga, n0 * 15 + n2, none⟩) (show ga ≠ bx by omega) _, HR5.out.2.setCell (p := ⟨ga, n0 * 15 + n2, none⟩) (show w_.heap.size ≤ ga by omega) _, _, h, HSK.out 0 2 F (by omega) (by omega) HF5.out.2⟩
                    case measure => simp [intOf]
                · obtain rfl : e = 3 := by omega
                  go_wp2
                  go_roundw
                  case rel =>
                    obtain ⟨hR, hbb, F, hF, hT⟩ := HF.out
                    exact ⟨1, by omega, rfl, hR, hbb, F, hF, tbi_row hT⟩
                  case measure => simp [intOf]
            · go_wp2
              clear d0 d1 d2 hlx
              obtain ⟨wy, rfl⟩ : ∃ wy : World, wy = wr := ⟨_, rfl⟩
              go_loopw [27] (fun i wr => ∃ e : Nat, e ≤ 3 ∧ i = .int .i64 e ∧ Hid (Row wr bx 75 #[.int .i64 (n0 : Int), .int .i64 (n1 : Int), .int .i64 (n2 : Int)] ∧ Below w_.heap.size w_ wr ∧ ∃ F, Row wr ga 79 (gcells F) ∧ TBi xs k ((n0 : Int), (n1 : Int), (n2 : Int)) 1 e F)) (fun i _ => 3 - (intOf i).toNat)
              case atStart => exact ⟨0, by omega, rfl, HE.out⟩
              case round =>
                obtain ⟨e, he, rfl, HF⟩ := hrel
                by_cases hlt4 : e < 3
                · obtain ⟨hR, hbb, F, hF, hT⟩ := HF.out
                  have hlg := hF.lt
                  have HR5 := Lib.hid (And.intro hR hbb)
                  have HF5 := Lib.hid (And.intro hF hT)
                  clear hR hbb hF hT HF
                  rcases (by omega : e = 0 ∨ e = 1 ∨ e = 2) with rfl | rfl | rfl
                  · have p5 := (HF5.out.1.cell (n1 * 15 + n0)).trans (gcells_get F (n1 * 15 + n0) (by omega))
                    have f5 := HF5.out.1.frozen (n1 * 15 + n0)
                    go_wp2
                    go_roundw
                    case rel =>
                      have h := HF5.out.1.set (n1 * 15 + n0) (.int .i64 (k : Int))
                      rw [gcells_upd] at h
                      exact ⟨1, by omega, rfl, HR5.out.1.far (p := ⟨ga, n1 * 15 + n0, none⟩) (show ga ≠ bx by omega) _, HR5.out.2.setCell (p := ⟨ga, n1 * 15 + n0, none⟩) (show w_.heap.size ≤ ga by omega) _, _, h, HSK.out 1 0 F (by omega) (by omega) HF5.out.2⟩
                    case measure => simp [intOf]
                  · have p5 := (HF5.out.1.cell (n1 * 15 + n1)).trans (gcells_get F (n1 * 15 + n1) (by omega))
                    have f5 := HF5.out.1.frozen (n1 * 15 + n1)
                    go_wp2
                    go_roundw
                    case rel =>
                      have h := HF5.out.1.set (n1 * 15 + n1) (.int .i64 (k : Int))
                      rw [gcells_upd] at h
                      exact ⟨2, by omega, rfl, HR5.out.1.far (p := ⟨ga, n1 * 15 + n1, none⟩) (show ga ≠ bx by omega) _, HR5.out.2.setCell (p := ⟨ga, n1 * 15 + n1, none⟩) (show w_.heap.size ≤ ga by omega) _, _, h, HSK.out 1 1 F (by omega) (by omega) HF5.out.2⟩
                    case measure => simp [intOf]
                  · have p5 := (HF5.out.1.cell (n1 * 15 + n2)).trans (gcells_get F (n1 * 15 + n2) (by omega))
                    have f5 := HF5.out.1.frozen (n1 * 15 + n2)
                    go_wp2
                    go_roundw
                    case rel =>
                      have h := HF5.out.1.set (n1 * 15 + n2) (.int .i64 (k : Int))
                      rw [gcells_upd] at h
                      exact ⟨3, by omega, rfl, HR5.out.1.far (p := ⟨ga, n1 * 15 + n2, none⟩) (show ga ≠ bx by omega) _, HR5.out.2.setCell (p := ⟨ga, n1 * 15 + n2, none⟩) (show w_.heap.size ≤ ga by omega) _, _, h, HSK.out 1 2 F (by omega) (by omega) HF5.out.2⟩
                    case measure => simp [intOf]
                · obtain rfl : e = 3 := by omega
                  go_wp2
                  go_roundw
                  case rel =>
                    obtain ⟨hR, hbb, F, hF, hT⟩ := HF.out
                    exact ⟨2, by omega, rfl, hR, hbb, F, hF, tbi_row hT⟩
                  case measure => simp [intOf]
            · go_wp2
              clear d0 d1 d2 hlx
              obtain ⟨wy, rfl⟩ : ∃ wy : World, wy = wr := ⟨_, rfl⟩
              go_loopw [27] (fun i wr => ∃ e : Nat, e ≤ 3 ∧ i = .int .i64 e ∧ Hid (Row wr bx 75 #[.int .i64 (n0 : Int), .int .i64 (n1 : Int), .int .i64 (n2 : Int)] ∧ Below w_.heap.size w_ wr ∧ ∃ F, Row wr ga 79 (gcells F) ∧ TBi xs k ((n0 : Int), (n1 : Int), (n2 : Int)) 2 e F)) (fun i _ => 3 - (intOf i).toNat)
              case atStart => exact ⟨0, by omega, rfl, HE.out⟩
              case round =>
                obtain ⟨e, he, rfl, HF⟩ := hrel
                by_cases hlt4 : e < 3
                · obtain ⟨hR, hbb, F, hF, hT⟩ := HF.out
                  have hlg := hF.lt
                  have HR5 := Lib.hid (And.intro hR hbb)
                  have HF5 := Lib.hid (And.intro hF hT)
                  clear hR hbb hF hT HF
                  rcases (by omega : e = 0 ∨ e = 1 ∨ e = 2) with rfl | rfl | rfl
                  · have p5 := (HF5.out.1.cell (n2 * 15 + n0)).trans (gcells_get F (n2 * 15 + n0) (by omega))
                    have f5 := HF5.out.1.frozen (n2 * 15 + n0)
                    go_wp2
                    go_roundw
                    case rel =>
                      have h := HF5.out.1.set (n2 * 15 + n0) (.int .i64 (k : Int))
                      rw [gcells_upd] at h
                      exact ⟨1, by omega, rfl, HR5.out.1.far (p := ⟨ga, n2 * 15 + n0, none⟩) (show ga ≠ bx by omega) _, HR5.out.2.setCell (p := ⟨ga, n2 * 15 + n0, none⟩) (show w_.heap.size ≤ ga by omega) _, _, h, HSK.out 2 0 F (by omega) (by omega) HF5.out.2⟩
                    case measure => simp [intOf]
                  · have p5 := (HF5.out.1.cell (n2 * 15 + n1)).trans (gcells_get F (n2 * 15 + n1) (by omega))
                    have f5 := HF5.out.1.frozen (n2 * 15 + n1)
                    go_wp2
                    go_roundw
                    case rel =>
                      have h := HF5.out.1.set (n2 * 15 + n1) (.int .i64 (k : Int))
                      rw [gcells_upd] at h
                      exact ⟨2, by omega, rfl, HR5.out.1.far (p := ⟨ga, n2 * 15 + n1, none⟩) (show ga ≠ bx by omega) _, HR5.out.2.setCell (p := ⟨ga, n2 * 15 + n1, none⟩) (show w_.heap.size ≤ ga by omega) _, _, h, HSK.out 2 1 F (by omega) (by omega) HF5.out.2⟩
                    case measure => simp [intOf]
                  · have p5 := (HF5.out.1.cell (n2 * 15 + n2)).trans (gcells_get F (n2 * 15 + n2) (by omega))
                    have f5 := HF5.out.1.frozen (n2 * 15 + n2)
                    go_wp2
                    go_roundw
                    case rel =>
                      have h := HF5.out.1.set (n2 * 15 + n2) (.int .i64 (k : Int))
                      rw [gcells_upd] at h
                      exact ⟨3, by omega, rfl, HR5.out.1.far (p := ⟨ga, n2 * 15 + n2, none⟩) (show ga ≠ bx by omega) _, HR5.out.2.setCell (p := ⟨ga, n2 * 15 + n2, none⟩) (show w_.heap.size ≤ ga by omega) _, _, h, HSK.out 2 2 F (by omega) (by omega) HF5.out.2⟩
                    case measure => simp [intOf]
                · obtain rfl : e = 3 := by omega
                  go_wp2
                  go_roundw
                  case rel =>
                    obtain ⟨hR, hbb, F, hF, hT⟩ := HF.out
                    exact ⟨3, by omega, rfl, hR, hbb, F, hF, tbi_row hT⟩
                  case measure => simp [intOf]
          · obtain rfl : a = 3 := by omega
            go_wp2
            go_roundw
            case rel =>
              obtain ⟨hR, hbb, F, hF, hT⟩ := HE.out
              exact ⟨k + 1, by omega, by go_num, hbb, F, hF, tbi_end (by rw [HBk.out]; exact hT)⟩
            case measure => simp [intOf]; omega
      · obtain rfl : k = xs.length := by omega
        obtain ⟨hbb, F, hF, hT⟩ := HC.out
        obtain ⟨c0', c1'⟩ := HBX.out _ hbb
        have HRW := Lib.hid (HR.out.below hbb)
        have hlr3 := HRW.out.lt
        have HT := Lib.hid hT
        have HF := Lib.hid hF
        have HBB := Lib.hid hbb
        have HAW := Lib.hid (HA.out.below hbb)
        clear hT hF hbb
        go_wp2_with fail
        refine (orbits_any n A c xs xs.length 77 #[] #[.pointer (some ⟨w.heap.size, 0, none⟩), .pointer (some ⟨ga, 0, none⟩)] (blkA xs) _ HAW.out hl (by omega) (fun args w => by kernel_rfl) (fun k1 k2 L i hV hL hi => ?_) (fun k1 k2 W L i B hb hB hV hL hi => ?_) (fun h0 k hk => ?_)).mono ?_
        · rw [Int.toNat_natCast] at hV hL
          exact (blkA_is HS.out k2 ⟨hV, hL⟩ hi).1
        · rw [Int.toNat_natCast] at hV hL
          have hg := good_bd (HS.out.2.2.1 i hi).1
          have r0 := hV.rng (nth xs i).1.toNat (by omega)
          have r1 := hV.rng (nth xs i).2.1.toNat (by omega)
          obtain ⟨t0, t1, _⟩ := blk_has (b := nth xs i)
          have hbi := blkA_is HS.out k2 ⟨hV, hL⟩ hi
          have h := HT.out (blkA xs L i) hbi.1 (mIm L (nth xs i).1) (mIm L (nth xs i).2.1) (hbi.2 _ t0) (hbi.2 _ t1) (fun e => by have := mIm_inj HS.out ⟨hV, hL⟩ hi t0 t1 e; omega)
          have e15 : ((n : Int)).toNat = n := by simp
          show Calls Try.prog 77 #[.slice B ((n : Int)).toNat 15, .int .i64 (i : Int), .pointer (some ⟨w.heap.size, 0, none⟩), .pointer (some ⟨ga, 0, none⟩)] W _
          rw [e15]
          exact blkCl_any n n i w.heap.size ga (nth xs i).1.toNat (nth xs i).2.1.toNat (im L (nth xs i).1.toNat) (im L (nth xs i).2.1.toNat) (blkA xs L i) F A B c xs L W hB hL (by omega) (HRW.out.below hb) (Row.below HF.out hb) (HAW.out.below hb) hl hi (by omega) (by omega) (by omega) (by omega) r0.2 r1.2 r0.1 r1.1 (by simpa [mIm] using h)
        · obtain ⟨k1, k2⟩ := fcode_zero h0
          have h := (blk_eqv HS.out k2).rfl_ k hk
          rw [Int.toNat_natCast]
          exact h
        rw [← HN.out]
        rintro e w3 ⟨B, d, rfl, hL, hb⟩
        have HW4 := Lib.hid (below_up (HW.out.below HBB.out) hb)
        have HL := Lib.hid (hL.base (HW.out.below HBB.out).size)
        clear hL hb
        go_wp2
        go_ret2
        exact ⟨B, d, rfl, HL.out, HW4.out⟩

end Go.Proofs.Ytgbkonnmjmlalaa

/- Contract of the orbits of blocks, of the reference; conditions: stated in each. -/
namespace Go.Proofs.Ytgbkonnmjmlalaa
open Go.RowKit
set_option maxHeartbeats 20000000
set_option maxRecDepth 100000
set_option linter.unusedSimpArgs false
set_option linter.unusedVariables false

theorem cell_ne {w : World} {g i gi n : Nat} {F : Nat → Bool} {v : Value} (h : w.cell? ⟨g, i, none⟩ = some v) (hv : Vb w gi n F) (hb : ∀ b, v ≠ .bool b) : g ≠ gi := by
  rintro rfl
  rw [Row.cell hv i] at h
  by_cases hi : i < n
  · rw [bcells_get F hi] at h
    simp only [Option.some.injEq] at h
    exact hb _ h.symm
  · rw [Array.getElem?_eq_none (by rw [bcells_size]; omega)] at h
    cases h
theorem cell_far {w : World} {p q : Addr} (h : q.block ≠ p.block) (u : Value) : (w.setCell p u).cell? q = w.cell? q := World.cell?_of_block (a := q) (Below.heap_setCell w p u q.block h)

theorem specBlo_any (v : Int) (A : Option Addr) (c : Nat) (xs : List Blk) (w : World) (hA : Bl w A xs) (hl : xs.length ≤ 1048576) :
    Calls Try.prog 41 #[.agg #[.int .i64 v, .slice A xs.length c]] w (LPP w (bloR v xs).1 (bloR v xs).2) := by
  by_cases hc : fcode v xs = 0
  · obtain ⟨h1, h2⟩ := fcode_zero hc
    have hs := isSysB_iff.1 h1
    have hv := hs.1
    obtain ⟨n, rfl⟩ := Int.eq_ofNat_of_zero_le (by omega : 0 ≤ v)
    have HS := Lib.hid hs; have HF := Lib.hid h2
    have HC := Lib.hid hc
    have hld := lead_bd hs hs h2 h2
    have HN : Hid (bloR n xs = (orbL (relB (blkA xs) (leadL n xs xs)) xs.length xs.length, 0)) := by unfold Hid bloR orbR; rw [if_pos hc]; rfl
    have HQ := Lib.hid (blk_eqv hs h2)
    generalize bloR n xs = R at *
    clear hs h1 h2 hc
    have hl35 := HS.out.2.1
    have hn1 : (xs.length : Int) ≤ 1000000 := by omega
    have hto : ((xs.length : Int)).toNat = xs.length := by simp
    go_enter Try.func41, Try.ntmps41; have HA := Lib.hid hA; clear hA; have HR := Lib.hid (Row.box w 30 (.int .i64 n) (.slice A xs.length c)); have HW := Lib.hid (Since.refl w); replace HA := Lib.hid (HA.out.below (below_alloc _ (.cells #[.int .i64 n, .slice A xs.length c] 30))); replace HW := Lib.hid (HW.out.below (below_alloc _ (.cells #[.int .i64 n, .slice A xs.length c] 30))); obtain ⟨c0, c1⟩ := HR.out.c2; go_wp2_with fail; refine (code_one n A c xs _ _ (by simp) HA.out hl).mono ?_; rw [HC.out]; rintro e w_ ⟨rfl, hb⟩; replace HA := Lib.hid (HA.out.below hb); replace HW := Lib.hid (HW.out.below hb); replace HR := Lib.hid (HR.out.below hb); clear hb; (try clear c0 c1); obtain ⟨c0, c1⟩ := HR.out.c2
    go_wp2
    have HKEEP := Lib.hid (And.intro c0 c1)
    have HBB : Hid (∀ W, Below w_.heap.size w_ W → (W.cell? ⟨w.heap.size, 0, none⟩ = some (.int .i64 n) ∧ W.cell? ⟨w.heap.size, 1, none⟩ = some (.slice A xs.length c))) := fun W hb => (HR.out.below hb).c2
    clear c0 c1
    go_region_held3 (fun w' => w'.cell? ⟨w.heap.size, 0, none⟩ = some (.int .i64 n) ∧ w'.cell? ⟨w.heap.size, 1, none⟩ = some (.slice A xs.length c)) (first | exact HKEEP.out | exact HBB.out _ (by (repeat' (first | (with_reducible exact Below.refl _ _) | (with_reducible assumption) | (with_reducible refine below_drewN ?_ _) | (with_reducible refine Below.drew ?_) | (with_reducible refine Below.alloc ?_ ?_ _) | (with_reducible refine Below.setCell ?_ ?_ _) | go_size)))) (first
      | (go_at_call 52
         refine (l06All_any n A c xs _ (HA.out.below (by (repeat' (first | (with_reducible exact Below.refl _ _) | (with_reducible assumption) | (with_reducible refine below_drewN ?_ _) | (with_reducible refine Below.drew ?_) | (with_reducible refine Below.alloc ?_ ?_ _) | (with_reducible refine Below.setCell ?_ ?_ _) | go_size)))) hl HS.out HF.out).mono ?_
         rintro r w3 ⟨u, rfl, hL, hb⟩
         obtain ⟨B, d, rfl⟩ := hL.slice
         have HL := Lib.hid hL
         have HB3 : Hid (Below w_.heap.size w_ w3) := below_up (by (repeat' (first | (with_reducible exact Below.refl _ _) | (with_reducible assumption) | (with_reducible refine below_drewN ?_ _) | (with_reducible refine Below.drew ?_) | (with_reducible refine Below.alloc ?_ ?_ _) | (with_reducible refine Below.setCell ?_ ?_ _) | go_size))) hb
         have HP3 := Lib.hid hb
         replace HKEEP := Lib.hid (HBB.out _ HB3.out)
         have hb3 := HB3.out
         have hz3 := HB3.out.size
         clear hL hb))
    obtain ⟨wS, hS_⟩ : ∃ x : World, x = ((w3.alloc (.cells (bcells xs.length (fun _ => false)) 4)).alloc (.cells #[] 39)) := ⟨_, rfl⟩
    obtain ⟨z, hz_⟩ : ∃ x : Nat, x = w3.heap.size + 1 := ⟨_, rfl⟩
    obtain ⟨gm, hg_⟩ : ∃ x : Nat, x = w3.heap.size := ⟨_, rfl⟩
    obtain ⟨base, hb_⟩ : ∃ x : Nat, x = w_.drew.heap.size := ⟨_, rfl⟩
    have HP : Hid (P0S w_ w3 wS base gm z xs.length) := by rw [hS_, hz_, hg_, hb_]; exact p0s_1 _ xs.length HB3.out
    replace HL : Hid (LLq w3 base (.slice B (leadL n xs xs).length d) (leadL n xs xs)) := by rw [hb_]; exact HL.out
    rw [← hS_, ← hz_, ← hg_]
    clear hS_ hz_ hg_ hb_ HP3 hb3 hz3
    rotate_left
    obtain ⟨wS, hS_⟩ : ∃ x : World, x = ((w3.alloc (.cells #[] 39)).alloc (.cells (bcells xs.length (fun _ => false)) 4)) := ⟨_, rfl⟩
    obtain ⟨z, hz_⟩ : ∃ x : Nat, x = w3.heap.size := ⟨_, rfl⟩
    obtain ⟨gm, hg_⟩ : ∃ x : Nat, x = w3.heap.size + 1 := ⟨_, rfl⟩
    obtain ⟨base, hb_⟩ : ∃ x : Nat, x = w_.drew.heap.size := ⟨_, rfl⟩
    have HP : Hid (P0S w_ w3 wS base gm z xs.length) := by rw [hS_, hz_, hg_, hb_]; exact p0s_2 _ xs.length HB3.out
    replace HL : Hid (LLq w3 base (.slice B (leadL n xs xs).length d) (leadL n xs xs)) := by rw [hb_]; exact HL.out
    rw [← hS_, ← hg_, ← hz_]
    clear hS_ hz_ hg_ hb_ HP3 hb3 hz3
    rotate_left
    obtain ⟨wS, hS_⟩ : ∃ x : World, x = (w3.alloc (.cells #[] 39)) := ⟨_, rfl⟩
    obtain ⟨z, hz_⟩ : ∃ x : Nat, x = w3.heap.size := ⟨_, rfl⟩
    obtain ⟨gm, hg_⟩ : ∃ x : Nat, x = w_.heap.size := ⟨_, rfl⟩
    obtain ⟨base, hb_⟩ : ∃ x : Nat, x = (w_.alloc (.cells (bcells xs.length (fun _ => false)) 4)).drew.heap.size := ⟨_, rfl⟩
    have HP : Hid (P0S w_ w3 wS base gm z xs.length) := by rw [hS_, hz_, hg_, hb_]; exact p0s_3 xs.length HB3.out HP3.out
    replace HL : Hid (LLq w3 base (.slice B (leadL n xs xs).length d) (leadL n xs xs)) := by rw [hb_]; exact HL.out
    rw [← hS_, ← hz_, ← hg_]
    clear hS_ hz_ hg_ hb_ HP3 hb3 hz3
    rotate_left
    obtain ⟨wS, hS_⟩ : ∃ x : World, x = w3 := ⟨_, rfl⟩
    obtain ⟨z, hz_⟩ : ∃ x : Nat, x = w_.heap.size + 1 := ⟨_, rfl⟩
    obtain ⟨gm, hg_⟩ : ∃ x : Nat, x = w_.heap.size := ⟨_, rfl⟩
    obtain ⟨base, hb_⟩ : ∃ x : Nat, x = ((w_.alloc (.cells (bcells xs.length (fun _ => false)) 4)).alloc (.cells #[] 39)).drew.heap.size := ⟨_, rfl⟩
    have HP : Hid (P0S w_ w3 wS base gm z xs.length) := by rw [hS_, hz_, hg_, hb_]; exact p0s_4 xs.length HB3.out HP3.out
    replace HL : Hid (LLq w3 base (.slice B (leadL n xs xs).length d) (leadL n xs xs)) := by rw [hb_]; exact HL.out
    rw [← hS_, ← hz_, ← hg_]
    clear hS_ hz_ hg_ hb_ HP3 hb3 hz3
    rotate_left
    obtain ⟨wS, hS_⟩ : ∃ x : World, x = (w3.alloc (.cells (bcells xs.length (fun _ => false)) 4)) := ⟨_, rfl⟩
    obtain ⟨z, hz_⟩ : ∃ x : Nat, x = w_.heap.size := ⟨_, rfl⟩
    obtain ⟨gm, hg_⟩ : ∃ x : Nat, x = w3.heap.size := ⟨_, rfl⟩
    obtain ⟨base, hb_⟩ : ∃ x : Nat, x = (w_.alloc (.cells #[] 39)).drew.heap.size := ⟨_, rfl⟩
    have HP : Hid (P0S w_ w3 wS base gm z xs.length) := by rw [hS_, hz_, hg_, hb_]; exact p0s_5 xs.length HB3.out HP3.out
    replace HL : Hid (LLq w3 base (.slice B (leadL n xs xs).length d) (leadL n xs xs)) := by rw [hb_]; exact HL.out
    rw [← hS_, ← hg_, ← hz_]
    clear hS_ hz_ hg_ hb_ HP3 hb3 hz3
    rotate_left
    obtain ⟨wS, hS_⟩ : ∃ x : World, x = w3 := ⟨_, rfl⟩
    obtain ⟨z, hz_⟩ : ∃ x : Nat, x = w_.heap.size := ⟨_, rfl⟩
    obtain ⟨gm, hg_⟩ : ∃ x : Nat, x = w_.heap.size + 1 := ⟨_, rfl⟩
    obtain ⟨base, hb_⟩ : ∃ x : Nat, x = ((w_.alloc (.cells #[] 39)).alloc (.cells (bcells xs.length (fun _ => false)) 4)).drew.heap.size := ⟨_, rfl⟩
    have HP : Hid (P0S w_ w3 wS base gm z xs.length) := by rw [hS_, hz_, hg_, hb_]; exact p0s_6 xs.length HB3.out HP3.out
    replace HL : Hid (LLq w3 base (.slice B (leadL n xs xs).length d) (leadL n xs xs)) := by rw [hb_]; exact HL.out
    rw [← hS_, ← hg_, ← hz_]
    clear hS_ hz_ hg_ hb_ HP3 hb3 hz3
    rotate_left
    all_goals
      have HLA : Hid (∀ k, k < (leadL n xs xs).length → Val n (thN xs) (thN xs) (nthLL (leadL n xs xs) k) ∧ (nthLL (leadL n xs xs) k).length = n) := fun k hk => lead_at HS.out HS.out HF.out HF.out hk
      have HTB : Hid (∀ k, k < (leadL n xs xs).length → ∀ i j, relB (blkA xs) ((leadL n xs xs).take (k + 1)) i j = (relB (blkA xs) ((leadL n xs xs).take k) i j || (blkA xs (nthLL (leadL n xs xs) k) i == j))) := fun k hk i j => relB_take hk i j
      have HTL : Hid ((leadL n xs xs).take (leadL n xs xs).length = leadL n xs xs) := List.take_length
      have HOP := Lib.hid (HP.out.op (relB (blkA xs) (leadL n xs xs)))
      have HGA := Lib.hid HP.out.gma
      have HGL := Lib.hid HP.out.gl
      have hn15 : n ≤ 15 := by omega
      have hwr : IntKind.i64.wrap (xs.length : Int) = (xs.length : Int) := by rw [IntKind.wrap_i64]; omega
      have HOL : Hid (∀ k, (orbL (relB (blkA xs) (leadL n xs xs)) xs.length k).length ≤ k) := orbL_len _ _
      obtain ⟨li0, hli, hli0, hli1, hli2⟩ := info_parts infoList'
      obtain ⟨ni0, hni, hni0, hni1, hni2⟩ := info_parts infoInt'
      clear HP
      generalize leadL n xs xs = Ls at *
      obtain ⟨Rl, hRl⟩ : ∃ Rl, relB (blkA xs) Ls = Rl := ⟨_, rfl⟩
      rw [hRl] at HQ HN HOP HOL
      have HRL := Lib.hid hRl
      clear hRl
      go_wp2
      go_loopw [7, 8] (fun u i wr => ∃ k : Nat, k ≤ xs.length ∧ i = .int .i64 k ∧ Hid (OP w_ w3 base gm xs.length Rl k u wr)) (fun _ i _ => xs.length - (intOf i).toNat)
      case atStart => exact ⟨0, by omega, rfl, HOP.out⟩
      case round =>
        obtain ⟨k, hk, rfl, HC⟩ := hrel
        obtain ⟨c0, c1⟩ := HBB.out _ HC.out.bw
        by_cases hlt : k < xs.length
        · have q0 := HC.out.vb.cell hlt
          have hgl := HC.out.vb.lt
          rw [met_less HQ.out hlt] at q0
          obtain ⟨A7, d7, hu⟩ := HC.out.ll.slice
          subst hu
          have hk2 : (k : Int) < (xs.length : Int) := by omega
          have hlo := HOL.out k
          cases hb3 : lessB Rl k
          · rw [hb3] at q0
            have HB0 := Lib.hid hb3
            clear hb3
            have HX1 := Lib.hid (below_up (below_alloc wr (.cells (bcells xs.length (fun _ => false)) 4)) (below_alloc (wr.alloc (.cells (bcells xs.length (fun _ => false)) 4)) (.cells #[] 2)))
            have HX2 : Hid (Vb ((wr.alloc (.cells (bcells xs.length (fun _ => false)) 4)).alloc (.cells #[] 2)) wr.heap.size xs.length (fun _ => false)) := (Vb.new wr _ _).below (below_alloc _ _)
            have HX3 : Hid (Ro ((wr.alloc (.cells (bcells xs.length (fun _ => false)) 4)).alloc (.cells #[] 2)) wr.heap.size (.slice (some ⟨wr.heap.size + 1, 0, none⟩) 0 0) []) := by
              have h := World.ownsRow_made (base := wr.heap.size) (e := 2) (size := 1) (wr.alloc (.cells (bcells xs.length (fun _ => false)) 4)) #[] 0 (by simp) (by unfold maxLen; omega) (by simp)
              rw [World.size_alloc] at h
              exact h
            obtain ⟨wo, rfl⟩ : ∃ wo : World, wo = wr := ⟨_, rfl⟩
            go_wp2
            go_loopw [11] (fun i wq => ∃ m : Nat, m ≤ Ls.length ∧ i = .int .i64 m ∧ Hid (Below wo.heap.size wo wq ∧ Ro wq wo.heap.size (.slice (some ⟨wo.heap.size + 1, 0, none⟩) 0 0) [] ∧ Vb wq wo.heap.size xs.length (fun j => relB (blkA xs) (Ls.take m) k j))) (fun i _ => Ls.length - (intOf i).toNat)
            case atStart => exact ⟨0, by omega, rfl, HX1.out, HX3.out, HX2.out.ext fun i _ => by simp [relB]⟩
            case round =>
              obtain ⟨m, hm, rfl, HD⟩ := hrel
              by_cases hlt2 : m < Ls.length
              · obtain ⟨g2, E, f, hB, hg2, hcell, hI⟩ := LLq.rd (HL.out.zone (fun q h1 h2 => (HD.out.1.block q (by have := HC.out.sz; omega)).trans (HC.out.zone q h1 h2))) hlt2
                subst hB
                obtain ⟨hval, hlen⟩ := HLA.out m hlt2
                rw [hlen] at hcell
                have hAU : Aut n (thN xs) (nthLL Ls m) := ⟨hval, hlen⟩
                have hbw4 := below_up HC.out.bw HD.out.1
                obtain ⟨b4, o4, hA4, hb4, s0, s1, s2⟩ := (HA.out.below hbw4).at_ hlt
                have hbA := blkA_is HS.out HF.out hAU hlt
                have hord := ordB_is HS.out HF.out hAU hlt
                have hg := good_bd (HS.out.2.2.1 k hlt).1
                obtain ⟨n0, n1, n2, hb, h0, h1, h2⟩ : ∃ n0 n1 n2 : Nat, nth xs k = ((n0 : Int), (n1 : Int), (n2 : Int)) ∧ n0 < n ∧ n1 < n ∧ n2 < n := by
                  refine ⟨(nth xs k).1.toNat, (nth xs k).2.1.toNat, (nth xs k).2.2.toNat, ?_, by omega, by omega, by omega⟩
                  rw [Int.toNat_of_nonneg (by omega), Int.toNat_of_nonneg (by omega), Int.toNat_of_nonneg (by omega)]
                rw [hb] at s0 s1 s2 hord
                simp only at s0 s1 s2
                replace hord : nth xs (blkA xs (nthLL Ls m) k) = ordB (im (nthLL Ls m) n0 : Nat) (im (nthLL Ls m) n1 : Nat) (im (nthLL Ls m) n2 : Nat) := hord
                have r0 := hval.rng n0 (by omega)
                have r1 := hval.rng n1 (by omega)
                have r2 := hval.rng n2 (by omega)
                obtain ⟨b5, o5, hE5, hb5, t0⟩ := hI.at_ (k := n0) (by omega)
                obtain ⟨b6, o6, hE6, hb6, t1⟩ := hI.at_ (k := n1) (by omega)
                obtain ⟨b7, o7, hE7, hb7, t2⟩ := hI.at_ (k := n2) (by omega)
                subst hE5
                obtain ⟨rfl, rfl⟩ : b5 = b6 ∧ o5 = o6 := by simpa using hE6
                obtain ⟨rfl, rfl⟩ : b5 = b7 ∧ o5 = o7 := by simpa using hE7
                rw [r0.2] at t0
                rw [r1.2] at t1
                rw [r2.2] at t2
                have HIM := Lib.hid (HTB.out m hlt2 k)
                have hNU : ∀ i, i < blkA xs (nthLL Ls m) k → nth xs i ≠ nth xs (blkA xs (nthLL Ls m) k) := fun i hi e => by
                  have hmn := hbA.1
                  have := nth_ne HS.out (by omega) hmn e
                  omega
                rw [hord] at hNU
                have hmN := hbA.1
                generalize blkA xs (nthLL Ls m) k = mN at *
                obtain ⟨p, hp⟩ : ∃ p, im (nthLL Ls m) n0 = p := ⟨_, rfl⟩
                obtain ⟨q, hq⟩ : ∃ q, im (nthLL Ls m) n1 = q := ⟨_, rfl⟩
                obtain ⟨r, hr⟩ : ∃ r, im (nthLL Ls m) n2 = r := ⟨_, rfl⟩
                rw [hp] at t0 r0 hord hNU
                rw [hq] at t1 r1 hord hNU
                rw [hr] at t2 r2 hord hNU
                have HNU := Lib.hid hNU
                have HORD := Lib.hid hord
                have hp15 := r0.1
                have hq15 := r1.1
                have hr15 := r2.1
                have n5 := cell_ne t0 HD.out.2.2 (fun b => by simp)
                have n2' := cell_ne hcell HD.out.2.2 (fun b => by simp)
                have HBY : Hid (Bl wr A xs) := HA.out.below hbw4
                clear c0 c1
                obtain ⟨c0, c1⟩ := HBB.out _ hbw4
                have hlr := (HR.out.below hbw4).lt
                have hgi := HD.out.2.2.lt
                have hww := HW.out.size
                have hlw := HR.out.lt
                have hwo := HC.out.bw.size
                have hwq := HD.out.1.size
                subst hA4
                clear hval hlen hI hp hq hr r0 r1 r2 hAU hbA hord hNU hg hE6 hE7 hb hbw4
                go_wp2
                have HXB : Hid (Below wr.heap.size wr (wr.alloc (.cells #[.int .i64 (n0 : Int), .int .i64 (n1 : Int), .int .i64 (n2 : Int)] 75))) := below_alloc _ _
                have HXR : Hid (Row (wr.alloc (.cells #[.int .i64 (n0 : Int), .int .i64 (n1 : Int), .int .i64 (n2 : Int)] 75)) wr.heap.size 75 #[.int .i64 (n0 : Int), .int .i64 (n1 : Int), .int .i64 (n2 : Int)]) := Row.new wr _ _
                obtain ⟨bx, hbx⟩ : ∃ x, wr.heap.size = x := ⟨_, rfl⟩
                rw [hbx] at HXR ⊢
                generalize wr.alloc (.cells #[.int .i64 (n0 : Int), .int .i64 (n1 : Int), .int .i64 (n2 : Int)] 75) = wB at *
                have hxs := HXB.out.size
                have HPB : Hid (∀ w', Below wB.heap.size wB w' → (w'.cell? ⟨w.heap.size, 0, none⟩ = some (.int .i64 n) ∧ w'.cell? ⟨w.heap.size, 1, none⟩ = some (.slice (some ⟨b4, o4, none⟩) xs.length c)) ∧ (w'.cell? ⟨bx, 0, none⟩ = some (.int .i64 n0) ∧ w'.cell? ⟨bx, 1, none⟩ = some (.int .i64 n1) ∧ w'.cell? ⟨bx, 2, none⟩ = some (.int .i64 n2)) ∧ w'.cell? ⟨g2, m, none⟩ = some (.slice (some ⟨b5, o5, none⟩) n f) ∧ w'.cell? ⟨b5, o5 + n0, none⟩ = some (.int .i64 p) ∧ w'.cell? ⟨b5, o5 + n1, none⟩ = some (.int .i64 q) ∧ w'.cell? ⟨b5, o5 + n2, none⟩ = some (.int .i64 r)) := fun w' hb => by
                  have hbw := below_up HXB.out hb
                  have hr := HXR.out.below hb
                  exact ⟨⟨(hbw.cell (p := ⟨w.heap.size, 0, none⟩) (by simp; omega)).trans c0, (hbw.cell (p := ⟨w.heap.size, 1, none⟩) (by simp; omega)).trans c1⟩, ⟨hr.cell 0, hr.cell 1, hr.cell 2⟩, (hbw.cell (p := ⟨g2, m, none⟩) hg2).trans hcell, (hbw.cell (p := ⟨b5, o5 + n0, none⟩) hb5).trans t0, (hbw.cell (p := ⟨b5, o5 + n1, none⟩) hb5).trans t1, (hbw.cell (p := ⟨b5, o5 + n2, none⟩) hb5).trans t2⟩
                have HPS : Hid (∀ w', Below wB.heap.size wB w' → (fun w' : World => (w'.cell? ⟨w.heap.size, 0, none⟩ = some (.int .i64 n) ∧ w'.cell? ⟨w.heap.size, 1, none⟩ = some (.slice (some ⟨b4, o4, none⟩) xs.length c)) ∧ (w'.cell? ⟨bx, 0, none⟩ = some (.int .i64 n0) ∧ w'.cell? ⟨bx, 1, none⟩ = some (.int .i64 n1) ∧ w'.cell? ⟨bx, 2, none⟩ = some (.int .i64 n2)) ∧ w'.cell? ⟨g2, m, none⟩ = some (.slice (some ⟨b5, o5, none⟩) n f) ∧ w'.cell? ⟨b5, o5 + n0, none⟩ = some (.int .i64 p) ∧ w'.cell? ⟨b5, o5 + n1, none⟩ = some (.int .i64 q) ∧ w'.cell? ⟨b5, o5 + n2, none⟩ = some (.int .i64 r)) (w'.setCell ⟨wo.heap.size, mN, none⟩ (.bool true))) := fun w' hb => by
                  obtain ⟨⟨k1, k2⟩, ⟨k3, k4, k5⟩, k6, k7, k8, k9⟩ := HPB.out w' hb
                  exact ⟨⟨(cell_far (by simp; omega) _).trans k1, (cell_far (by simp; omega) _).trans k2⟩, ⟨(cell_far (by simp; omega) _).trans k3, (cell_far (by simp; omega) _).trans k4, (cell_far (by simp; omega) _).trans k5⟩, (cell_far n2' _).trans k6, (cell_far n5 _).trans k7, (cell_far n5 _).trans k8, (cell_far n5 _).trans k9⟩
                have HVB : Hid (Vb wB wo.heap.size xs.length (fun j => relB (blkA xs) (Ls.take m) k j)) := HD.out.2.2.below HXB.out
                replace HBY : Hid (Bl wB (some ⟨b4, o4, none⟩) xs) := HBY.out.below HXB.out
                have HK0 := Lib.hid (HPB.out wB (Below.refl _ _))
                have hgB : g2 < wB.heap.size := by omega
                have hb5B : b5 < wB.heap.size := by omega
                have hlB : w.heap.size < wB.heap.size := by omega
                have hbB : bx < wB.heap.size := HXR.out.lt
                have hmNi : (mN : Int) < (xs.length : Int) := by omega
                clear c0 c1 hcell t0 t1 t2 s0 s1 s2
                go_region_held3 (fun w' => (w'.cell? ⟨w.heap.size, 0, none⟩ = some (.int .i64 n) ∧ w'.cell? ⟨w.heap.size, 1, none⟩ = some (.slice (some ⟨b4, o4, none⟩) xs.length c)) ∧ (w'.cell? ⟨bx, 0, none⟩ = some (.int .i64 n0) ∧ w'.cell? ⟨bx, 1, none⟩ = some (.int .i64 n1) ∧ w'.cell? ⟨bx, 2, none⟩ = some (.int .i64 n2)) ∧ w'.cell? ⟨g2, m, none⟩ = some (.slice (some ⟨b5, o5, none⟩) n f) ∧ w'.cell? ⟨b5, o5 + n0, none⟩ = some (.int .i64 p) ∧ w'.cell? ⟨b5, o5 + n1, none⟩ = some (.int .i64 q) ∧ w'.cell? ⟨b5, o5 + n2, none⟩ = some (.int .i64 r)) (first | exact HK0.out | exact HK5.out | exact HK6.out | exact HK7.out) (first
                  | (go_at_call 76
                     refine (l01Block_any p q r _ (by omega) (by omega) (by omega)).mono ?_
                     rintro e w5 ⟨rfl, hb⟩
                     have HB5 : Hid (Below wB.heap.size wB w5) := below_up (by (repeat' (first | (with_reducible exact Below.refl _ _) | (with_reducible assumption) | (with_reducible refine below_drewN ?_ _) | (with_reducible refine Below.drew ?_) | (with_reducible refine Below.alloc ?_ ?_ _) | (with_reducible refine Below.setCell ?_ ?_ _) | go_size))) hb
                     have HK5 := Lib.hid (HPB.out w5 HB5.out)
                     have hz5 := HB5.out.size
                     clear hb)
                  | (go_at_call 75
                     refine (l06Number_any n (some ⟨b4, o4, none⟩) c xs (ordB p q r) mN _ (HBY.out.below HB5.out) hl hmN HORD.out HNU.out).mono ?_
                     rintro e w6 ⟨rfl, hb⟩
                     have HB6 : Hid (Below wB.heap.size wB w6) := below_up HB5.out hb
                     have HK6 := Lib.hid (HPB.out w6 HB6.out)
                     have HK7 := Lib.hid (HPS.out w6 HB6.out)
                     have hz6 := HB6.out.size
                     have v6 := (HVB.out.below HB6.out).cell hmN
                     have f6 := (HVB.out.below HB6.out).frozen mN
                     have l6 : wo.heap.size < w6.heap.size := by omega
                     clear hb))
                go_wp2
                go_roundw
                case rel =>
                  have hb9 := below_up HXB.out HB6.out
                  refine ⟨m + 1, by omega, by go_num, (below_up HD.out.1 hb9).setCell (p := ⟨wo.heap.size, mN, none⟩) (Nat.le_refl _) _, (Ro.below HD.out.2.1 hb9).grown (grown_set (grown_refl _ _) _ _) (fun b e => by simp only [Value.ownBlock, Option.some.injEq] at e; subst e; simp), ((HVB.out.below HB6.out).set mN true).ext fun i _ => ?_⟩
                  rw [HIM.out]
                  unfold updA
                  by_cases e : i = mN
                  · subst e; simp
                  · have : (mN == i) = false := by simpa using Ne.symm e
                    rw [if_neg e, this, Bool.or_false]
                case measure => simp [intOf]; omega
              · obtain rfl : m = Ls.length := by omega
                have HVG : Hid (Vb wr wo.heap.size xs.length (Rl k)) := by
                  have h := HD.out.2.2
                  rw [HTL.out, HRL.out] at h
                  exact h
                have HIB := Lib.hid (IB.start HD.out.1 HD.out.2.1 HVG.out HC.out.vb)
                go_wp2
                go_loopw [10, 13] (fun un i wq => ∃ j : Nat, j ≤ xs.length ∧ i = .int .i64 j ∧ Hid (IB wo wq gm wo.heap.size xs.length Rl k j un)) (fun _ i _ => xs.length - (intOf i).toNat)
                case atStart => exact ⟨0, by omega, rfl, HIB.out⟩
                case round =>
                  obtain ⟨j, hj, rfl, HE⟩ := hrel
                  obtain ⟨e0, e1⟩ := HBB.out _ (HC.out.bw.grown HE.out.hg HC.out.bw.size (fun q e => by simp only [Option.some.injEq] at e; subst e; exact HGL.out))
                  by_cases hlt3 : j < xs.length
                  · have p0 := HE.out.vg.cell hlt3
                    have hvl := HE.out.vg.lt
                    have f0 := HE.out.vm.frozen j
                    have m0 := HE.out.vm.cell hlt3
                    have hvm := HE.out.vm.lt
                    have hj2 : (j : Int) < (xs.length : Int) := by omega
                    cases hrb : Rl k j
                    · rw [hrb] at p0
                      have HRB := Lib.hid hrb
                      clear hrb
                      go_wp2
                      go_roundw
                      case rel => exact ⟨j + 1, by omega, by go_num, HE.out.skip HRB.out⟩
                      case measure => simp [intOf]; omega
                    · rw [hrb] at p0
                      have HRB := Lib.hid hrb
                      clear hrb
                      have HO := Lib.hid (HE.out.own j (.bool true))
                      have hlm := relL_len Rl j k
                      have hwq := HE.out.hg.size
                      have hbw_ : wo.heap.size ≤ (wr.setCell ⟨gm, j, none⟩ (.bool true)).heap.size := by simpa [World.setCell] using hwq
                      go_wp2_with (at_builtin; refine wpList_append_own _ rfl _ _ 39 rfl wo.heap.size 2 ni0 (.int .i64 0) 1 8 Try.underlying39 hni hni0 hni1 hni2 rfl (by decide) _ _ _ rfl (HO.out.alloc _) ⟨wr.heap.size, 0, none⟩ 1 1 [.int .i64 (j : Int)] rfl rfl (cells_newH (cw := wr.setCell ⟨gm, j, none⟩ (.bool true)) (by simp [World.setCell])) (by simp [Value.oneCell']) (by unfold maxLen; omega) (by omega) (by simp; omega) ?_; intro v2 w2 hown2 hg2 _)
                      have HNX := Lib.hid (HE.out.next HRB.out hlt3 (Nat.ne_of_gt HC.out.vb.lt) hg2 hown2)
                      clear hown2 hg2 hbw_
                      go_wp2
                      go_roundw
                      case rel => exact ⟨j + 1, by omega, by go_num, HNX.out⟩
                      case measure => simp [intOf]; omega
                  · obtain rfl : j = xs.length := by omega
                    obtain ⟨E, f, hun⟩ := own_slice HE.out.ro
                    subst hun
                    obtain ⟨vs, ho, hpush⟩ := HC.out.next HQ.out hlt HB0.out HGA.out HGL.out HE.out
                    have HOO := Lib.hid ho
                    have HPUSH := Lib.hid hpush
                    have hwq := HE.out.hg.size
                    have hwo := HC.out.bw.size
                    clear ho hpush
                    go_wp2_with (at_builtin; go_loud (refine wpList_append_own_at _ rfl _ _ 46 rfl w_.heap.size 39 li0 (.slice none 0 0) 1 24 Try.underlying46 hli hli0 hli1 hli2 rfl (by decide) _ _ vs rfl (HOO.out.alloc _) ⟨wr.heap.size, 0, none⟩ 1 1 [.slice E (relL Rl xs.length k).length f] rfl rfl (cells_newH (cw := wr) (by simp)) (by simp [Value.oneCell']) (by unfold maxLen; omega) (by omega) (by simp; omega) ?_); intro v2 w2 hown2 hg2 _ hat2)
                    have HN2 := Lib.hid (HPUSH.out _ w2 v2 hg2 hown2 hat2)
                    clear hown2 hg2 hat2
                    go_wp2
                    go_roundw
                    case rel => exact ⟨k + 1, by omega, by go_num, HN2.out⟩
                    case measure => simp [intOf]; omega
          · rw [hb3] at q0
            have HSK := Lib.hid (HC.out.skip HQ.out hlt hb3)
            clear hb3
            go_wp2
            go_roundw
            case rel => exact ⟨k + 1, by omega, by go_num, HSK.out⟩
            case measure => simp [intOf]; omega
        · obtain rfl : k = xs.length := by omega
          have HBW : Hid (Below w.heap.size w wr) := HW.out.below HC.out.bw
          have HLW := Lib.hid (HC.out.ll.base HW.out.size)
          go_wp2
          go_ret2
          exact LPP.mk HLW.out.llq (by rw [HN.out]) (by rw [HN.out]) HBW.out
  · have HC := Lib.hid hc
    have hne : (fcode v xs != 0) = true := by simpa using hc
    have HN : Hid (bloR v xs = ([], fcode v xs)) := by unfold Hid bloR orbR; rw [if_neg hc]
    generalize bloR v xs = R at *
    clear hc
    go_enter Try.func41, Try.ntmps41; have HA := Lib.hid hA; clear hA; have HR := Lib.hid (Row.box w 30 (.int .i64 v) (.slice A xs.length c)); have HW := Lib.hid (Since.refl w); replace HA := Lib.hid (HA.out.below (below_alloc _ (.cells #[.int .i64 v, .slice A xs.length c] 30))); replace HW := Lib.hid (HW.out.below (below_alloc _ (.cells #[.int .i64 v, .slice A xs.length c] 30))); obtain ⟨c0, c1⟩ := HR.out.c2; go_wp2_with fail; refine (code_one v A c xs _ _ (by simp) HA.out hl).mono ?_; rintro e w_ ⟨rfl, hb⟩; replace HA := Lib.hid (HA.out.below hb); replace HW := Lib.hid (HW.out.below hb); replace HR := Lib.hid (HR.out.below hb); clear hb; (try clear c0 c1); obtain ⟨c0, c1⟩ := HR.out.c2
    go_wp2
    go_ret2
    exact LPP.nil (by rw [HN.out]) (by rw [HN.out]) HW.out

end Go.Proofs.Ytgbkonnmjmlalaa
