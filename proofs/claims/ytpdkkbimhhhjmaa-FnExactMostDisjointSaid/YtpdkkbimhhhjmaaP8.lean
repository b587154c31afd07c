/- Plain laws of the sets of disjoint blocks, in order, and of their number. Conditions: none. -/
import Derived.Test.YtpdkkbimhhhjmaaP3
namespace Go.Proofs.Ytpdkkbimhhhjmaa

/-- what the rounds from 'from' to below m give, one after another -/
def loopL (f : Nat → List (List Int)) (p : Nat → Bool) (from_ : Nat) : Nat → List (List Int)
  | 0 => []
  | i + 1 => loopL f p from_ i ++ (if from_ ≤ i ∧ p i = true then f i else [])
def loopS (f : Nat → Nat) (p : Nat → Bool) (from_ : Nat) : Nat → Nat
  | 0 => 0
  | i + 1 => loopS f p from_ i + (if from_ ≤ i ∧ p i = true then f i else 0)
theorem loopL_nil (f : Nat → List (List Int)) (p : Nat → Bool) (a : Nat) : ∀ m, m ≤ a → loopL f p a m = [] := by
  intro m
  induction m with
  | zero => intro _; rfl
  | succ m ih => intro h; rw [loopL, ih (by omega), if_neg (by omega)]; rfl
theorem loopS_nil (f : Nat → Nat) (p : Nat → Bool) (a : Nat) : ∀ m, m ≤ a → loopS f p a m = 0 := by
  intro m
  induction m with
  | zero => intro _; rfl
  | succ m ih => intro h; rw [loopS, ih (by omega), if_neg (by omega)]
/-- whether a block meets none of some blocks -/
noncomputable def okI (xs : List Blk) (now : List Int) (i : Nat) : Bool := open Classical in decide (∀ k, k < now.length → meetB (blkAt xs now k) (nth xs i) = false)
def fromI (now : List Int) : Nat := if now.length = 0 then 0 else (nthI now (now.length - 1)).toNat + 1
/-- the sets of d more disjoint blocks, in order -/
noncomputable def disL (xs : List Blk) : Nat → List Int → List (List Int)
  | 0, now => [now]
  | d + 1, now => loopL (fun i => disL xs d (now ++ [(i : Int)])) (okI xs now) (fromI now) xs.length
/-- their number, by the points' digits -/
def cntS (xs : List Blk) : Nat → Nat → Nat → Nat
  | 0, _, _ => 1
  | d + 1, m, a => loopS (fun i => cntS xs d (m ||| maskB (nth xs i)) (i + 1)) (fun i => maskB (nth xs i) &&& m == 0) a xs.length

theorem loop_len {f : Nat → List (List Int)} {g : Nat → Nat} {p q : Nat → Bool} {a n : Nat} (h : ∀ i, a ≤ i → i < n → p i = q i ∧ (p i = true → (f i).length = g i)) : ∀ m, m ≤ n → (loopL f p a m).length = loopS g q a m := by
  intro m
  induction m with
  | zero => intro _; rfl
  | succ m ih =>
    intro hm
    rw [loopL, loopS, List.length_append, ih (by omega)]
    by_cases ha : a ≤ m
    · obtain ⟨h1, h2⟩ := h m ha (by omega)
      by_cases hp : p m = true
      · rw [if_pos ⟨ha, hp⟩, if_pos ⟨ha, h1 ▸ hp⟩, h2 hp]
      · rw [if_neg (fun h3 => hp h3.2), if_neg (fun h3 => hp (h1 ▸ h3.2))]; rfl
    · rw [if_neg (fun h3 => ha h3.1), if_neg (fun h3 => ha h3.1)]; rfl
theorem nthI_app {now : List Int} {x : Int} {k : Nat} (h : k < now.length) : nthI (now ++ [x]) k = nthI now k := by
  simp [nthI, List.getElem?_append_left h]
theorem nthI_last (now : List Int) (x : Int) : nthI (now ++ [x]) now.length = x := by simp [nthI]
theorem rises_snoc {now : List Int} {n : Nat} {i : Nat} (hr : risesI now n) (hi : i < n) (hf : fromI now ≤ i) : risesI (now ++ [(i : Int)]) n := by
  intro k hk
  rw [List.length_append, List.length_singleton] at hk
  by_cases hkl : k < now.length
  · rw [nthI_app hkl]
    refine ⟨(hr k hkl).1, fun h0 => ?_⟩
    rw [nthI_app (by omega)]
    exact (hr k hkl).2 h0
  · obtain rfl : k = now.length := by omega
    rw [nthI_last]
    refine ⟨by omega, fun h0 => ?_⟩
    rw [nthI_app (by omega)]
    have := (hr (now.length - 1) (by omega)).1
    unfold fromI at hf
    rw [if_neg (by omega)] at hf
    omega
theorem fromI_snoc (now : List Int) (i : Nat) : fromI (now ++ [(i : Int)]) = i + 1 := by
  unfold fromI
  rw [if_neg (by simp), List.length_append, List.length_singleton, Nat.add_sub_cancel, nthI_last]; simp
theorem uni_app (xs : List Blk) (now : List Int) (x : Int) : ∀ k, k ≤ now.length → uni xs (now ++ [x]) k = uni xs now k := by
  intro k
  induction k with
  | zero => intro _; rfl
  | succ k ih => intro hk; rw [uni, uni, ih (by omega), blkAt, blkAt, nthI_app (by omega)]
theorem uni_snoc (xs : List Blk) (now : List Int) (i : Nat) : uni xs (now ++ [(i : Int)]) (now ++ [(i : Int)]).length = uni xs now now.length ||| maskB (nth xs i) := by
  rw [List.length_append, List.length_singleton, uni, uni_app _ _ _ _ (Nat.le_refl _), blkAt, nthI_last]; rfl
theorem meetB_symm {v v' : Int} {a b : Blk} (ha : goodB v a = true) (hb : goodB v' b = true) : meetB a b = meetB b a := by
  rw [Bool.eq_iff_iff, meet_iff a hb, meet_iff b ha, comI_symm]
theorem ok_iff {v : Int} {xs : List Blk} (ha : areB v xs) {now : List Int} {i : Nat} (hr : risesI now xs.length) (hi : i < xs.length) (hf : fromI now ≤ i) :
    okI xs now i = (maskB (nth xs i) &&& uni xs now now.length == 0) := by
  have hr2 := rises_snoc hr hi hf
  have hlen : (now ++ [(i : Int)]).length = now.length + 1 := by simp
  have hm := uni_meet ha hr2 (k := now.length) (by omega)
  have e : blkAt xs (now ++ [(i : Int)]) now.length = nth xs i := by rw [blkAt, nthI_last]; rfl
  rw [e, uni_app _ _ _ _ (Nat.le_refl _), Nat.and_comm] at hm
  rw [Bool.eq_iff_iff, beq_iff_eq, hm]
  unfold okI
  simp only [decide_eq_true_eq]
  have key : ∀ j, j < now.length → meetB (nth xs i) (blkAt xs (now ++ [(i : Int)]) j) = meetB (blkAt xs now j) (nth xs i) := by
    intro j hj
    have : blkAt xs (now ++ [(i : Int)]) j = blkAt xs now j := by rw [blkAt, blkAt, nthI_app hj]
    rw [this]
    exact meetB_symm (ha i hi).1 (blkAt_good ha hr hj)
  constructor
  · intro h j hj; rw [key j hj]; exact h j hj
  · intro h j hj; rw [← key j hj]; exact h j hj
theorem dis_len {v : Int} {xs : List Blk} (ha : areB v xs) : ∀ d now, risesI now xs.length → (disL xs d now).length = cntS xs d (uni xs now now.length) (fromI now) := by
  intro d
  induction d with
  | zero => intro now _; rfl
  | succ d ih =>
    intro now hr
    rw [disL, cntS]
    refine loop_len (n := xs.length) (fun i h1 h2 => ⟨ok_iff ha hr h2 h1, fun _ => ?_⟩) xs.length (Nat.le_refl _)
    rw [ih _ (rises_snoc hr h2 h1), uni_snoc, fromI_snoc]
theorem loopL_bd {f : Nat → List (List Int)} {p : Nat → Bool} {a B : Nat} (h : ∀ i, (f i).length ≤ B) (m : Nat) : (loopL f p a m).length ≤ m * B := by
  induction m with
  | zero => simp [loopL]
  | succ m ih =>
    have := h m
    rw [loopL, List.length_append, Nat.succ_mul]
    split
    · omega
    · simp; omega
theorem dis_bd {xs : List Blk} (hx : xs.length ≤ 35) : ∀ d now, (disL xs d now).length ≤ 35 ^ d := by
  intro d
  induction d with
  | zero => intro now; simp [disL]
  | succ d ih =>
    intro now
    rw [disL, Nat.pow_succ, Nat.mul_comm]
    exact Nat.le_trans (loopL_bd (fun i => ih _) _) (Nat.mul_le_mul_right _ hx)

theorem loopS_bd {f : Nat → Nat} {p : Nat → Bool} {a B : Nat} (h : ∀ i, f i ≤ B) (m : Nat) : loopS f p a m ≤ m * B := by
  induction m with
  | zero => simp [loopS]
  | succ m ih =>
    have := h m
    rw [loopS, Nat.succ_mul]
    split <;> omega
theorem cnt_bd {xs : List Blk} (hx : xs.length ≤ 35) : ∀ d m a, cntS xs d m a ≤ 35 ^ d := by
  intro d
  induction d with
  | zero => intro m a; simp [cntS]
  | succ d ih =>
    intro m a
    rw [cntS, Nat.pow_succ, Nat.mul_comm]
    exact Nat.le_trans (loopS_bd (fun i => ih _ _) _) (Nat.mul_le_mul_right _ hx)

end Go.Proofs.Ytpdkkbimhhhjmaa
