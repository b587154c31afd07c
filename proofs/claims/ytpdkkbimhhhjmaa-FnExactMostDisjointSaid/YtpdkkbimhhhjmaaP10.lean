/- Plain laws of the greatest sets of disjoint blocks. Conditions: none. -/
import Derived.Test.YtpdkkbimhhhjmaaP8
namespace Go.Proofs.Ytpdkkbimhhhjmaa

/-- all sets that go on from one, by up to d more blocks, a set ahead of those that go on from it -/
noncomputable def allL (xs : List Blk) : Nat → List Int → List (List Int)
  | 0, now => [now]
  | d + 1, now => now :: loopL (fun i => allL xs d (now ++ [(i : Int)])) (okI xs now) (fromI now) xs.length
def betterL (b l : List Int) : List Int := if b.length < l.length then l else b
def mostF (b : List Int) (L : List (List Int)) : List Int := L.foldl betterL b
theorem mostF_app (b : List Int) (L M : List (List Int)) : mostF b (L ++ M) = mostF (mostF b L) M := by simp [mostF]
theorem mostF_cons (b l : List Int) (M : List (List Int)) : mostF b (l :: M) = mostF (betterL b l) M := rfl
theorem mostF_nil (b : List Int) : mostF b [] = b := rfl
theorem mostF_stay {b : List Int} : ∀ {L : List (List Int)}, (∀ l ∈ L, l.length ≤ b.length) → mostF b L = b := by
  intro L
  induction L with
  | nil => intro _; rfl
  | cons l L ih =>
    intro h
    have h1 := h l (by simp)
    have : betterL b l = b := by unfold betterL; rw [if_neg (by omega)]
    rw [mostF_cons, this, ih (fun l hl => h l (by simp [hl]))]
theorem mostF_ge (b : List Int) : ∀ L : List (List Int), b.length ≤ (mostF b L).length := by
  intro L
  induction L generalizing b with
  | nil => exact Nat.le_refl _
  | cons l L ih =>
    have h1 : b.length ≤ (betterL b l).length := by unfold betterL; split <;> omega
    exact Nat.le_trans h1 (ih _)
theorem loopL_mem {f : Nat → List (List Int)} {p : Nat → Bool} {a : Nat} : ∀ {m : Nat} {l : List Int}, l ∈ loopL f p a m → ∃ i, a ≤ i ∧ i < m ∧ p i = true ∧ l ∈ f i := by
  intro m
  induction m with
  | zero => intro l h; simp [loopL] at h
  | succ m ih =>
    intro l h
    rw [loopL, List.mem_append] at h
    rcases h with h | h
    · obtain ⟨i, h1, h2, h3⟩ := ih h; exact ⟨i, h1, by omega, h3⟩
    · by_cases e : a ≤ m ∧ p m = true
      · rw [if_pos e] at h; exact ⟨m, e.1, by omega, e.2, h⟩
      · rw [if_neg e] at h; simp at h
/-- the rounds from i on give nothing better -/
theorem loop_stop {f : Nat → List (List Int)} {p : Nat → Bool} {a i : Nat} {b c : List Int} (e : mostF b (loopL f p a i) = c) : ∀ n, i ≤ n → (∀ j, i ≤ j → j < n → a ≤ j → p j = true → ∀ l ∈ f j, l.length ≤ c.length) → mostF b (loopL f p a n) = c := by
  intro n
  induction n with
  | zero => intro hn _; obtain rfl : i = 0 := by omega
            exact e
  | succ n ih =>
    intro hn h
    by_cases hin : i = n + 1
    · subst hin; exact e
    · rw [loopL, mostF_app, ih (by omega) (fun j h1 h2 => h j h1 (by omega))]
      by_cases hc : a ≤ n ∧ p n = true
      · rw [if_pos hc]; exact mostF_stay (h n (by omega) (by omega) hc.1 hc.2)
      · rw [if_neg hc]; rfl
theorem blkAt_app {xs : List Blk} {now : List Int} {x : Int} {k : Nat} (h : k < now.length) : blkAt xs (now ++ [x]) k = blkAt xs now k := by rw [blkAt, blkAt, nthI_app h]
theorem blkAt_last (xs : List Blk) (now : List Int) (i : Nat) : blkAt xs (now ++ [(i : Int)]) now.length = nth xs i := by rw [blkAt, nthI_last]; rfl
theorem apart_snoc {v : Int} {xs : List Blk} (ha : areB v xs) {now : List Int} {i : Nat} (hr : risesI now xs.length) (hd : apart xs now now.length) (hi : i < xs.length) (ok : okI xs now i = true) : apart xs (now ++ [(i : Int)]) (now ++ [(i : Int)]).length := by
  unfold okI at ok
  simp only [decide_eq_true_eq] at ok
  intro a h1 b h2
  rw [List.length_append, List.length_singleton] at h1
  by_cases e : a = now.length
  · subst e
    rw [blkAt_last, blkAt_app h2, meetB_symm (ha i hi).1 (blkAt_good ha hr h2)]
    exact ok b h2
  · rw [blkAt_app (by omega), blkAt_app (by omega)]
    exact hd a (by omega) b h2
theorem three_le {v : Int} {xs : List Blk} (ha : areB v xs) {now : List Int} (hr : risesI now xs.length) (hd : apart xs now now.length) : 3 * now.length ≤ v.toNat := by
  rw [← uni_cnt ha hr hd now.length (Nat.le_refl _)]; exact cntF_le _ _
theorem all_bd {v : Int} {xs : List Blk} (ha : areB v xs) : ∀ d now, risesI now xs.length → apart xs now now.length → ∀ l ∈ allL xs d now, now.length ≤ l.length ∧ l.length ≤ now.length + d ∧ 3 * l.length ≤ v.toNat := by
  intro d
  induction d with
  | zero => intro now hr hd l hl; rw [allL, List.mem_singleton] at hl; subst hl; exact ⟨Nat.le_refl _, by omega, three_le ha hr hd⟩
  | succ d ih =>
    intro now hr hd l hl
    rw [allL, List.mem_cons] at hl
    rcases hl with rfl | hl
    · exact ⟨Nat.le_refl _, by omega, three_le ha hr hd⟩
    · obtain ⟨i, h1, h2, h3, h4⟩ := loopL_mem hl
      have := ih _ (rises_snoc hr h2 h1) (apart_snoc ha hr hd h2 h3) l h4
      rw [List.length_append, List.length_singleton] at this
      omega
theorem filter_loop {q : List Int → Bool} {f : Nat → List (List Int)} {p : Nat → Bool} {a : Nat} : ∀ m, (loopL f p a m).filter q = loopL (fun i => (f i).filter q) p a m := by
  intro m
  induction m with
  | zero => rfl
  | succ m ih =>
    rw [loopL, loopL, List.filter_append, ih]
    congr 1
    split <;> simp
theorem loopL_congr {f g : Nat → List (List Int)} {p : Nat → Bool} {a : Nat} : ∀ m, (∀ i, a ≤ i → i < m → p i = true → f i = g i) → loopL f p a m = loopL g p a m := by
  intro m
  induction m with
  | zero => intro _; rfl
  | succ m ih =>
    intro h
    rw [loopL, loopL, ih (fun i h1 h2 => h i h1 (by omega))]
    by_cases e : a ≤ m ∧ p m = true
    · rw [if_pos e, if_pos e, h m e.1 (by omega) e.2]
    · rw [if_neg e, if_neg e]
theorem loopL_empty {f : Nat → List (List Int)} {p : Nat → Bool} {a : Nat} : ∀ m, (∀ i, a ≤ i → i < m → p i = true → f i = []) → loopL f p a m = [] := by
  intro m
  induction m with
  | zero => intro _; rfl
  | succ m ih =>
    intro h
    rw [loopL, ih (fun i h1 h2 => h i h1 (by omega))]
    by_cases e : a ≤ m ∧ p m = true
    · rw [if_pos e, h m e.1 (by omega) e.2]; rfl
    · rw [if_neg e]; rfl
theorem dis_filter {v : Int} {xs : List Blk} (ha : areB v xs) : ∀ D d now, d ≤ D → risesI now xs.length → apart xs now now.length → (allL xs D now).filter (fun l => decide (l.length = now.length + d)) = disL xs d now := by
  intro D
  induction D with
  | zero => intro d now hd _ _; obtain rfl : d = 0 := by omega
            simp [allL, disL]
  | succ D ih =>
    intro d now hd hr hap
    cases d with
    | zero =>
      rw [allL, List.filter_cons, if_pos (by simp), filter_loop, loopL_empty, disL]
      intro i h1 h2 h3
      rw [List.filter_eq_nil_iff]
      intro l hl
      have := (all_bd ha D _ (rises_snoc hr h2 h1) (apart_snoc ha hr hap h2 h3) l hl).1
      rw [List.length_append, List.length_singleton] at this
      simp; omega
    | succ d =>
      rw [allL, List.filter_cons, if_neg (by simp), filter_loop, disL]
      refine loopL_congr _ fun i h1 h2 h3 => ?_
      rw [← ih d _ (by omega) (rises_snoc hr h2 h1) (apart_snoc ha hr hap h2 h3)]
      congr 1
      funext l
      rw [List.length_append, List.length_singleton]
      congr 1
      rw [eq_iff_iff]; omega
/-- the first one of each number, by ascending numbers, the last one that is there -/
noncomputable def bestK (xs : List Blk) : Nat → List Int
  | 0 => []
  | k + 1 => match disL xs (k + 1) [] with
    | [] => bestK xs k
    | l :: _ => l
theorem most_split {k : Nat} : ∀ {M : List (List Int)} {b : List Int}, b.length ≤ k → (∀ l ∈ M, l.length ≤ k + 1) →
    mostF b M = match M.filter (fun l => decide (l.length = k + 1)) with
      | [] => mostF b (M.filter (fun l => decide (l.length ≤ k)))
      | l :: _ => l := by
  intro M
  induction M with
  | nil => intro b _ _; rfl
  | cons l M ih =>
    intro b hb h
    have h1 := h l (by simp)
    by_cases e : l.length = k + 1
    · rw [List.filter_cons, if_pos (by simpa using e)]
      have : betterL b l = l := by unfold betterL; rw [if_pos (by omega)]
      rw [mostF_cons, this, mostF_stay (fun l' hl' => by have := h l' (by simp [hl']); omega)]
    · rw [List.filter_cons, if_neg (by simpa using e), mostF_cons, ih (b := betterL b l) (by unfold betterL; split <;> omega) (fun l' hl' => h l' (by simp [hl']))]
      have e2 : (l :: M).filter (fun l => decide (l.length ≤ k)) = l :: M.filter (fun l => decide (l.length ≤ k)) := by rw [List.filter_cons, if_pos (by simp; omega)]
      rw [e2, mostF_cons]
theorem best_most {v : Int} {xs : List Blk} (ha : areB v xs) (D : Nat) : ∀ k, k ≤ D → bestK xs k = mostF [] ((allL xs D []).filter (fun l => decide (l.length ≤ k))) := by
  intro k
  induction k with
  | zero =>
    intro _
    rw [bestK, mostF_stay]
    intro l hl
    have := (List.mem_filter.1 hl).2
    simpa using this
  | succ k ih =>
    intro hk
    have hr : risesI [] xs.length := fun k hk => by simp at hk
    have hap : apart xs [] 0 := fun i hi => by omega
    have hd := dis_filter ha D (k + 1) [] hk hr hap
    simp only [List.length_nil, Nat.zero_add] at hd
    rw [most_split (k := k) (by simp) (fun l hl => by have := (List.mem_filter.1 hl).2; simpa using this), List.filter_filter, List.filter_filter]
    have e1 : (allL xs D []).filter (fun a => decide (a.length = k + 1) && decide (a.length ≤ k + 1)) = disL xs (k + 1) [] := by
      rw [← hd]; congr 1; funext l; rw [Bool.eq_iff_iff]; simp; omega
    have e2 : (allL xs D []).filter (fun a => decide (a.length ≤ k) && decide (a.length ≤ k + 1)) = (allL xs D []).filter (fun l => decide (l.length ≤ k)) := by
      congr 1; funext l; rw [Bool.eq_iff_iff]; simp; omega
    rw [e1, e2, ← ih (by omega), bestK]
theorem best_all {v : Int} {xs : List Blk} (hs : isSys v xs) {D : Nat} (hD : v.toNat / 3 ≤ D) (hD5 : D ≤ 5) : bestK xs 5 = mostF [] (allL xs D []) := by
  have hr : risesI [] xs.length := fun k hk => by simp at hk
  have hap : apart xs [] 0 := fun i hi => by omega
  have hv := hs.1.2
  have key : ∀ k, (bestK xs (D + k)) = bestK xs D := by
    intro k
    induction k with
    | zero => rfl
    | succ k ih =>
      rw [← Nat.add_assoc, bestK]
      have h := dis_filter hs.2.2.1 (D + k + 1) (D + k + 1) [] (Nat.le_refl _) hr hap
      have : disL xs (D + k + 1) [] = [] := by
        rw [← h, List.filter_eq_nil_iff]
        intro l hl
        have := all_bd hs.2.2.1 _ _ hr hap l hl
        simp; omega
      rw [this]; exact ih
  have e := best_most hs.2.2.1 D D (Nat.le_refl _)
  have e2 : (allL xs D []).filter (fun l => decide (l.length ≤ D)) = allL xs D [] := by
    rw [List.filter_eq_self]
    intro l hl
    have := all_bd hs.2.2.1 _ _ hr hap l hl
    simp at this ⊢; omega
  rw [e2] at e
  rw [← e, ← key (5 - D)]
  congr 1
  omega

end Go.Proofs.Ytpdkkbimhhhjmaa
