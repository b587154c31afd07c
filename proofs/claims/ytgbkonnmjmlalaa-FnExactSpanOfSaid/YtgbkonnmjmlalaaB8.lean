/- Plain laws and contracts, part 8; conditions: stated in each. -/
import Derived.Test.YtgbkonnmjmlalaaB1
import Derived.Test.YtgbkonnmjmlalaaB2
import Derived.Test.YtgbkonnmjmlalaaB3
set_option linter.unusedSimpArgs false
set_option linter.unusedVariables false
/- Plain laws of the greatest sets of disjoint blocks. Conditions: none. -/
namespace Go.Proofs.Ytgbkonnmjmlalaa

/-- all sets that go on from one, by up to d more blocks, a set ahead of those that go on from it -/
noncomputable def allL (xs : List Blk) : Nat → List Int → List (List Int)
  | 0, now => [now]
  | d + 1, now => now :: loopL (fun i => allL xs d (now ++ [(i : Int)])) (okI xs now) (fromI now) xs.length
def betterL (b l : List Int) : List Int := if b.length < l.length then l else b
def mostF (b : List Int) (L : List (List Int)) : List Int := L.foldl betterL b
theorem mostF_app (b : List Int) (L M : List (List Int)) : mostF b (L ++ M) = mostF (mostF b L) M := by simp [mostF]
theorem mostF_cons (b l : List Int) (M : List (List Int)) : mostF b (l :: M) = mostF (betterL b l) M := rfl
theorem mostF_nil (b : List Int) : mostF b [] = b := rfl
theorem mostF_stay {b : List Int} : ∀ {L : List (List Int)}, (∀ l ∈ L, l.length ≤ b.length) → mostF b L = b := by
  intro L
  induction L with
  | nil => intro _; rfl
  | cons l L ih =>
    intro h
    have h1 := h l (by simp)
    have : betterL b l = b := by unfold betterL; rw [if_neg (by omega)]
    rw [mostF_cons, this, ih (fun l hl => h l (by simp [hl]))]
theorem mostF_ge (b : List Int) : ∀ L : List (List Int), b.length ≤ (mostF b L).length := by
  intro L
  induction L generalizing b with
  | nil => exact Nat.le_refl _
  | cons l L ih =>
    have h1 : b.length ≤ (betterL b l).length := by unfold betterL; split <;> omega
    exact Nat.le_trans h1 (ih _)
theorem loopL_mem {f : Nat → List (List Int)} {p : Nat → Bool} {a : Nat} : ∀ {m : Nat} {l : List Int}, l ∈ loopL f p a m → ∃ i, a ≤ i ∧ i < m ∧ p i = true ∧ l ∈ f i := by
  intro m
  induction m with
  | zero => intro l h; simp [loopL] at h
  | succ m ih =>
    intro l h
    rw [loopL, List.mem_append] at h
    rcases h with h | h
    · obtain ⟨i, h1, h2, h3⟩ := ih h; exact ⟨i, h1, by omega, h3⟩
    · by_cases e : a ≤ m ∧ p m = true
      · rw [if_pos e] at h; exact ⟨m, e.1, by omega, e.2, h⟩
      · rw [if_neg e] at h; simp at h
/-- the rounds from i on give nothing better -/
theorem loop_stop {f : Nat → List (List Int)} {p : Nat → Bool} {a i : Nat} {b c : List Int} (e : mostF b (loopL f p a i) = c) : ∀ n, i ≤ n → (∀ j, i ≤ j → j < n → a ≤ j → p j = true → ∀ l ∈ f j, l.length ≤ c.length) → mostF b (loopL f p a n) = c := by
  intro n
  induction n with
  | zero => intro hn _; obtain rfl : i = 0 := by omega
            exact e
  | succ n ih =>
    intro hn h
    by_cases hin : i = n + 1
    · subst hin; exact e
    · rw [loopL, mostF_app, ih (by omega) (fun j h1 h2 => h j h1 (by omega))]
      by_cases hc : a ≤ n ∧ p n = true
      · rw [if_pos hc]; exact mostF_stay (h n (by omega) (by omega) hc.1 hc.2)
      · rw [if_neg hc]; rfl
theorem blkAt_app {xs : List Blk} {now : List Int} {x : Int} {k : Nat} (h : k < now.length) : blkAt xs (now ++ [x]) k = blkAt xs now k := by rw [blkAt, blkAt, nthI_app h]
theorem blkAt_last (xs : List Blk) (now : List Int) (i : Nat) : blkAt xs (now ++ [(i : Int)]) now.length = nth xs i := by rw [blkAt, nthI_last]; rfl
theorem apart_snoc {v : Int} {xs : List Blk} (ha : areB v xs) {now : List Int} {i : Nat} (hr : risesI now xs.length) (hd : apart xs now now.length) (hi : i < xs.length) (ok : okI xs now i = true) : apart xs (now ++ [(i : Int)]) (now ++ [(i : Int)]).length := by
  unfold okI at ok
  simp only [decide_eq_true_eq] at ok
  intro a h1 b h2
  rw [List.length_append, List.length_singleton] at h1
  by_cases e : a = now.length
  · subst e
    rw [blkAt_last, blkAt_app h2, meetB_symm (ha i hi).1 (blkAt_good ha hr h2)]
    exact ok b h2
  · rw [blkAt_app (by omega), blkAt_app (by omega)]
    exact hd a (by omega) b h2
theorem three_le {v : Int} {xs : List Blk} (ha : areB v xs) {now : List Int} (hr : risesI now xs.length) (hd : apart xs now now.length) : 3 * now.length ≤ v.toNat := by
  rw [← uni_cnt ha hr hd now.length (Nat.le_refl _)]; exact cntF_le _ _
theorem all_bd {v : Int} {xs : List Blk} (ha : areB v xs) : ∀ d now, risesI now xs.length → apart xs now now.length → ∀ l ∈ allL xs d now, now.length ≤ l.length ∧ l.length ≤ now.length + d ∧ 3 * l.length ≤ v.toNat := by
  intro d
  induction d with
  | zero => intro now hr hd l hl; rw [allL, List.mem_singleton] at hl; subst hl; exact ⟨Nat.le_refl _, by omega, three_le ha hr hd⟩
  | succ d ih =>
    intro now hr hd l hl
    rw [allL, List.mem_cons] at hl
    rcases hl with rfl | hl
    · exact ⟨Nat.le_refl _, by omega, three_le ha hr hd⟩
    · obtain ⟨i, h1, h2, h3, h4⟩ := loopL_mem hl
      have := ih _ (rises_snoc hr h2 h1) (apart_snoc ha hr hd h2 h3) l h4
      rw [List.length_append, List.length_singleton] at this
      omega
theorem filter_loop {q : List Int → Bool} {f : Nat → List (List Int)} {p : Nat → Bool} {a : Nat} : ∀ m, (loopL f p a m).filter q = loopL (fun i => (f i).filter q) p a m := by
  intro m
  induction m with
  | zero => rfl
  | succ m ih =>
    rw [loopL, loopL, List.filter_append, ih]
    congr 1
    split <;> simp
theorem loopL_congr {f g : Nat → List (List Int)} {p : Nat → Bool} {a : Nat} : ∀ m, (∀ i, a ≤ i → i < m → p i = true → f i = g i) → loopL f p a m = loopL g p a m := by
  intro m
  induction m with
  | zero => intro _; rfl
  | succ m ih =>
    intro h
    rw [loopL, loopL, ih (fun i h1 h2 => h i h1 (by omega))]
    by_cases e : a ≤ m ∧ p m = true
    · rw [if_pos e, if_pos e, h m e.1 (by omega) e.2]
    · rw [if_neg e, if_neg e]
theorem loopL_empty {f : Nat → List (List Int)} {p : Nat → Bool} {a : Nat} : ∀ m, (∀ i, a ≤ i → i < m → p i = true → f i = []) → loopL f p a m = [] := by
  intro m
  induction m with
  | zero => intro _; rfl
  | succ m ih =>
    intro h
    rw [loopL, ih (fun i h1 h2 => h i h1 (by omega))]
    by_cases e : a ≤ m ∧ p m = true
    · rw [if_pos e, h m e.1 (by omega) e.2]; rfl
    · rw [if_neg e]; rfl
theorem dis_filter {v : Int} {xs : List Blk} (ha : areB v xs) : ∀ D d now, d ≤ D → risesI now xs.length → apart xs now now.length → (allL xs D now).filter (fun l => decide (l.length = now.length + d)) = disL xs d now := by
  intro D
  induction D with
  | zero => intro d now hd _ _; obtain rfl : d = 0 := by omega
            simp [allL, disL]
  | succ D ih =>
    intro d now hd hr hap
    cases d with
    | zero =>
      rw [allL, List.filter_cons, if_pos (by simp), filter_loop, loopL_empty, disL]
      intro i h1 h2 h3
      rw [List.filter_eq_nil_iff]
      intro l hl
      have := (all_bd ha D _ (rises_snoc hr h2 h1) (apart_snoc ha hr hap h2 h3) l hl).1
      rw [List.length_append, List.length_singleton] at this
      simp; omega
    | succ d =>
      rw [allL, List.filter_cons, if_neg (by simp), filter_loop, disL]
      refine loopL_congr _ fun i h1 h2 h3 => ?_
      rw [← ih d _ (by omega) (rises_snoc hr h2 h1) (apart_snoc ha hr hap h2 h3)]
      congr 1
      funext l
      rw [List.length_append, List.length_singleton]
      congr 1
      rw [eq_iff_iff]; omega
/-- the first one of each number, by ascending numbers, the last one that is there -/
noncomputable def bestK (xs : List Blk) : Nat → List Int
  | 0 => []
  | k + 1 => match disL xs (k + 1) [] with
    | [] => bestK xs k
    | l :: _ => l
theorem most_split {k : Nat} : ∀ {M : List (List Int)} {b : List Int}, b.length ≤ k → (∀ l ∈ M, l.length ≤ k + 1) →
    mostF b M = match M.filter (fun l => decide (l.length = k + 1)) with
      | [] => mostF b (M.filter (fun l => decide (l.length ≤ k)))
      | l :: _ => l := by
  intro M
  induction M with
  | nil => intro b _ _; rfl
  | cons l M ih =>
    intro b hb h
    have h1 := h l (by simp)
    by_cases e : l.length = k + 1
    · rw [List.filter_cons, if_pos (by simpa using e)]
      have : betterL b l = l := by unfold betterL; rw [if_pos (by omega)]
      rw [mostF_cons, this, mostF_stay (fun l' hl' => by have := h l' (by simp [hl']); omega)]
    · rw [List.filter_cons, if_neg (by simpa using e), mostF_cons, ih (b := betterL b l) (by unfold betterL; split <;> omega) (fun l' hl' => h l' (by simp [hl']))]
      have e2 : (l :: M).filter (fun l => decide (l.length ≤ k)) = l :: M.filter (fun l => decide (l.length ≤ k)) := by rw [List.filter_cons, if_pos (by simp; omega)]
      rw [e2, mostF_cons]
theorem best_most {v : Int} {xs : List Blk} (ha : areB v xs) (D : Nat) : ∀ k, k ≤ D → bestK xs k = mostF [] ((allL xs D []).filter (fun l => decide (l.length ≤ k))) := by
  intro k
  induction k with
  | zero =>
    intro _
    rw [bestK, mostF_stay]
    intro l hl
    have := (List.mem_filter.1 hl).2
    simpa using this
  | succ k ih =>
    intro hk
    have hr : risesI [] xs.length := fun k hk => by simp at hk
    have hap : apart xs [] 0 := fun i hi => by omega
    have hd := dis_filter ha D (k + 1) [] hk hr hap
    simp only [List.length_nil, Nat.zero_add] at hd
    rw [most_split (k := k) (by simp) (fun l hl => by have := (List.mem_filter.1 hl).2; simpa using this), List.filter_filter, List.filter_filter]
    have e1 : (allL xs D []).filter (fun a => decide (a.length = k + 1) && decide (a.length ≤ k + 1)) = disL xs (k + 1) [] := by
      rw [← hd]; congr 1; funext l; rw [Bool.eq_iff_iff]; simp; omega
    have e2 : (allL xs D []).filter (fun a => decide (a.length ≤ k) && decide (a.length ≤ k + 1)) = (allL xs D []).filter (fun l => decide (l.length ≤ k)) := by
      congr 1; funext l; rw [Bool.eq_iff_iff]; simp; omega
    rw [e1, e2, ← ih (by omega), bestK]
theorem best_all {v : Int} {xs : List Blk} (hs : isSys v xs) {D : Nat} (hD : v.toNat / 3 ≤ D) (hD5 : D ≤ 5) : bestK xs 5 = mostF [] (allL xs D []) := by
  have hr : risesI [] xs.length := fun k hk => by simp at hk
  have hap : apart xs [] 0 := fun i hi => by omega
  have hv := hs.1.2
  have key : ∀ k, (bestK xs (D + k)) = bestK xs D := by
    intro k
    induction k with
    | zero => rfl
    | succ k ih =>
      rw [← Nat.add_assoc, bestK]
      have h := dis_filter hs.2.2.1 (D + k + 1) (D + k + 1) [] (Nat.le_refl _) hr hap
      have : disL xs (D + k + 1) [] = [] := by
        rw [← h, List.filter_eq_nil_iff]
        intro l hl
        have := all_bd hs.2.2.1 _ _ hr hap l hl
        simp; omega
      rw [this]; exact ih
  have e := best_most hs.2.2.1 D D (Nat.le_refl _)
  have e2 : (allL xs D []).filter (fun l => decide (l.length ≤ D)) = allL xs D [] := by
    rw [List.filter_eq_self]
    intro l hl
    have := all_bd hs.2.2.1 _ _ hr hap l hl
    simp at this ⊢; omega
  rw [e2] at e
  rw [← e, ← key (5 - D)]
  congr 1
  omega

end Go.Proofs.Ytgbkonnmjmlalaa

/- Contracts of the number of digits and of the greatest sets of disjoint blocks; conditions: stated in each. -/
namespace Go.Proofs.Ytgbkonnmjmlalaa
open Go.RowKit
set_option maxHeartbeats 1000000
set_option maxRecDepth 100000
set_option linter.unusedSimpArgs false
set_option linter.unusedVariables false

/-- the digits 1 of a number, the first f of them looked at -/
def onesF : Nat → Nat → Nat
  | 0, _ => 0
  | f + 1, n => onesF f (n / 2) + n % 2
theorem onesF_zero : ∀ f, onesF f 0 = 0 := by
  intro f; induction f with
  | zero => rfl
  | succ f ih => simp [onesF, ih]
theorem ones_cnt : ∀ f n, onesF f n = cntF (fun j => n.testBit j) f := by
  intro f
  induction f with
  | zero => intro n; rfl
  | succ f ih =>
    intro n
    rw [onesF, ih]
    have key : ∀ g, cntF (fun j => n.testBit j) (g + 1) = cntF (fun j => (n / 2).testBit j) g + n % 2 := by
      intro g
      induction g with
      | zero => simp [cntF, Nat.testBit_zero]; rcases Nat.mod_two_eq_zero_or_one n with h | h <;> simp [h]
      | succ g ihg =>
        rw [cntF, ihg, cntF, Nat.testBit_div_two]; omega
    rw [key f]

theorem l05Ones_any (n : Nat) (w : World) (hn : n < 32768) :
    Calls Try.prog 108 #[.int .i64 (n : Int)] w fun e w' => e = .returned (.int .i64 (onesF 15 n : Nat)) ∧ Below w.heap.size w w' := by
  have HG : Hid (onesF 15 n = onesF 15 n) := rfl
  go_enter Try.func108, Try.ntmps108
  go_wp2
  go_loopw [0, 3] (fun i q wr => ∃ f m N : Nat, f ≤ 15 ∧ m < 2 ^ f ∧ N + f ≤ 15 ∧ i = .int .i64 m ∧ q = .int .i64 N ∧ Hid (Below w.heap.size w wr ∧ N + onesF f m = onesF 15 n)) (fun i _ _ => (intOf i).toNat)
  case atStart => exact ⟨15, n, 0, by omega, by simpa using hn, by omega, rfl, rfl, Below.refl _ _, by simp⟩
  case round =>
    obtain ⟨f, m, N, hf, hm, hN, rfl, rfl, HC⟩ := hrel
    by_cases hz : m = 0
    · subst hz
      have hof := onesF_zero f
      go_wp2
      go_ret
      exact ⟨ret_int (by have := HC.out.2; rw [hof] at this; rw [← this]; rfl), HC.out.1⟩
    · obtain ⟨f, rfl⟩ : ∃ g, f = g + 1 := by
        rcases f with _ | f
        · simp at hm; omega
        · exact ⟨f, rfl⟩
      have hm2 : m / 2 < 2 ^ f := by rw [Nat.pow_succ] at hm; omega
      have hmb : m < 32768 := by
        have : 2 ^ (f + 1) ≤ 2 ^ 15 := Nat.pow_le_pow_right (by omega) hf
        have e : 2 ^ 15 = 32768 := by decide
        omega
      have HM2 := Lib.hid hm2
      have HST : Hid (onesF (f + 1) m = onesF f (m / 2) + m % 2) := rfl
      have hd : (m : Int).tdiv 2 = ((m / 2 : Nat) : Int) := by rw [Int.tdiv_eq_ediv_of_nonneg (by omega)]; rfl
      have hr : (m : Int).tmod 2 = ((m % 2 : Nat) : Int) := by rw [Int.tmod_eq_emod_of_nonneg (by omega)]; rfl
      have hr2 : m % 2 ≤ 1 := by omega
      clear hm hm2
      go_wp2
      go_roundw
      case rel =>
        refine ⟨f, m / 2, N + m % 2, by omega, HM2.out, by omega, ?_, ?_, HC.out.1, ?_⟩
        · first | exact val_int hd | (simp; omega)
        · exact val_int (by push_cast; rfl)
        · have := HC.out.2; rw [HST.out] at this; omega
      case measure => simp [intOf]; omega

theorem mostF_le {B : Nat} : ∀ {L : List (List Int)} {b : List Int}, b.length ≤ B → (∀ l ∈ L, l.length ≤ B) → (mostF b L).length ≤ B := by
  intro L
  induction L with
  | nil => intro b hb _; exact hb
  | cons l L ih =>
    intro b hb h
    rw [mostF_cons]
    refine ih ?_ (fun l' hl' => h l' (by simp [hl']))
    unfold betterL; split
    · exact h l (by simp)
    · exact hb
/-- what is known of a set of disjoint blocks on the way -/
def Way (v : Int) (xs : List Blk) (now : List Int) (m a : Nat) : Prop := risesI now xs.length ∧ apart xs now now.length ∧ m = uni xs now now.length ∧ a = fromI now
theorem Way.step {v : Int} {xs : List Blk} {now : List Int} {m a i : Nat} (ha : areB v xs) (h : Way v xs now m a) (hi : i < xs.length) (hai : a ≤ i) (ok : okI xs now i = true) : Way v xs (now ++ [(i : Int)]) (m ||| maskB (nth xs i)) (i + 1) := by
  obtain ⟨h1, h2, h3, h4⟩ := h
  exact ⟨rises_snoc h1 hi (h4 ▸ hai), apart_snoc ha h1 h2 hi ok, by rw [h3, uni_snoc], (fromI_snoc _ _).symm⟩
theorem Way.ok {v : Int} {xs : List Blk} {now : List Int} {m a i : Nat} (ha : areB v xs) (h : Way v xs now m a) (hi : i < xs.length) (hai : a ≤ i) : okI xs now i = (maskB (nth xs i) &&& m == 0) := by
  obtain ⟨h1, h2, h3, h4⟩ := h
  rw [h3]; exact ok_iff ha h1 hi (h4 ▸ hai)
theorem Way.ones {v : Int} {xs : List Blk} {now : List Int} {m a : Nat} (ha : areB v xs) (hv : v ≤ 15) (h : Way v xs now m a) : onesF 15 m = 3 * now.length ∧ m < 32768 := by
  obtain ⟨h1, h2, h3, h4⟩ := h
  have hlt := uni_lt ha h1 now.length (Nat.le_refl _)
  have hp := pow15 hv
  refine ⟨?_, by rw [h3]; omega⟩
  rw [ones_cnt, h3, ← uni_cnt ha h1 h2 now.length (Nat.le_refl _)]
  have key : ∀ k, v.toNat + k ≤ 15 → cntF (fun j => (uni xs now now.length).testBit j) (v.toNat + k) = cntF (fun j => (uni xs now now.length).testBit j) v.toNat := by
    intro k
    induction k with
    | zero => intro _; rfl
    | succ k ih =>
      intro hk
      have : (uni xs now now.length).testBit (v.toNat + k) = false := Nat.testBit_lt_two_pow (Nat.lt_of_lt_of_le hlt (Nat.pow_le_pow_right (by omega) (by omega)))
      rw [← Nat.add_assoc, cntF, ih (by omega), this]; rfl
  have := key (15 - v.toNat) (by omega)
  have e : v.toNat + (15 - v.toNat) = 15 := by omega
  rwa [e] at this

end Go.Proofs.Ytgbkonnmjmlalaa

/- Contracts of sets of points by their bits and of closed sets; conditions: stated in each. -/
namespace Go.Proofs.Ytgbkonnmjmlalaa
open Go.RowKit
set_option maxHeartbeats 400000
set_option maxRecDepth 100000
set_option linter.unusedSimpArgs false
set_option linter.unusedVariables false

theorem wrap_u64_nat (a : Nat) (ha : a < 4611686018427387904) : IntKind.u64.wrap (a : Int) = a := by
  simp [IntKind.wrap, IntKind.bits, IntKind.signed]; omega
theorem bits_and_u (a b : Nat) (ha : a < 4611686018427387904) (hb : b < 4611686018427387904) : bits .and .u64 (a : Int) (b : Int) = ((a &&& b : Nat) : Int) := by
  have hx : a &&& b < 4611686018427387904 := Nat.lt_of_le_of_lt Nat.and_le_left ha
  show IntKind.u64.wrap ((BitVec.ofInt 64 (a : Int) &&& BitVec.ofInt 64 (b : Int)).toNat : Int) = _
  rw [BitVec.toNat_and, ofInt64_nat a ha, ofInt64_nat b hb, wrap_u64_nat _ hx]
theorem bits_or_u (a b : Nat) (ha : a < 4611686018427387904) (hb : b < 4611686018427387904) : bits .or .u64 (a : Int) (b : Int) = ((a ||| b : Nat) : Int) := by
  have hx : a ||| b < 2 ^ 62 := Nat.or_lt_two_pow (by simpa using ha) (by simpa using hb)
  show IntKind.u64.wrap ((BitVec.ofInt 64 (a : Int) ||| BitVec.ofInt 64 (b : Int)).toNat : Int) = _
  rw [BitVec.toNat_or, ofInt64_nat a ha, ofInt64_nat b hb, wrap_u64_nat _ (by simpa using hx)]

theorem l07Bits_any (B : Option Addr) (d : Nat) (ls : List Int) (w : World) (hB : Il w B ls) (hlb : ls.length ≤ 1048576) (hr : ∀ k, k < ls.length → 0 ≤ nthI ls k ∧ nthI ls k < 15) :
    Calls Try.prog 81 #[.slice B ls.length d] w fun e w' => e = .returned (.int .i64 (bitsL ls ls.length : Nat)) ∧ Below w.heap.size w w' := by
  have HB := Lib.hid hB; have HRG := Lib.hid hr; clear hB hr
  go_enter Try.func81, Try.ntmps81
  go_wp2
  go_loopw [3, 4] (fun q i wr => ∃ k m : Nat, k ≤ ls.length ∧ m < 32768 ∧ i = .int .i64 k ∧ q = .int .i64 m ∧ Hid (Below w.heap.size w wr ∧ m = bitsL ls k)) (fun _ i _ => ls.length - (intOf i).toNat)
  case atStart => exact ⟨0, 0, by omega, by omega, rfl, rfl, Below.refl _ _, rfl⟩
  case round =>
    obtain ⟨k, m, hk, hm, rfl, rfl, HC⟩ := hrel
    by_cases hlt : k < ls.length
    · obtain ⟨b1, o1, hA1, hb1, p0⟩ := (HB.out.below HC.out.1).at_ hlt
      subst hA1
      obtain ⟨p, hp⟩ := Int.eq_ofNat_of_zero_le (HRG.out k hlt).1
      have hp15 : p < 15 := by have := (HRG.out k hlt).2; omega
      rw [hp] at p0
      have HN : Hid (bitsL ls (k + 1) = bitsL ls k ||| 2 ^ p) := by unfold Hid; rw [bitsL, hp]; rfl
      have h2p : 2 ^ p < 32768 := by have : 2 ^ p < 2 ^ 15 := Nat.pow_lt_pow_right (by omega) hp15; simpa using this
      have hor := bits_or_nat m (2 ^ p) (by omega) (by omega)
      have hmx : m ||| 2 ^ p < 32768 := by
        have : m ||| 2 ^ p < 2 ^ 15 := Nat.or_lt_two_pow (by simpa using hm) (by simpa using h2p)
        simpa using this
      have HW2 : Hid (bits .or .i64 (m : Int) (wrap64 ((2 : Int) ^ p)) = ((m ||| 2 ^ p : Nat) : Int)) := by
        have e : wrap64 ((2 : Int) ^ p) = ((2 ^ p : Nat) : Int) := by have : ((2 : Int) ^ p) = ((2 ^ p : Nat) : Int) := by push_cast; rfl
                                                                      rw [this]; clear hor hmx HN this; generalize 2 ^ p = z at *; go_unwrap
        unfold Hid; rw [e]; exact hor
      clear hp hor
      go_wp2
      go_roundw
      case rel => exact ⟨k + 1, m ||| 2 ^ p, by omega, hmx, by go_num, val_int HW2.out, HC.out.1, by rw [HN.out, HC.out.2]⟩
      case measure => simp [intOf]; omega
    · obtain rfl : k = ls.length := by omega
      go_wp2
      go_ret
      exact ⟨ret_int (by rw [HC.out.2]), HC.out.1⟩

theorem setOf_any (B : Option Addr) (d : Nat) (ls : List Int) (w : World) (hB : Il w B ls) (hlb : ls.length ≤ 1048576) (hr : ∀ k, k < ls.length → 0 ≤ nthI ls k ∧ nthI ls k < 15) :
    Calls Try.prog 85 #[.slice B ls.length d] w fun e w' => e = .returned (.int .u64 (bitsL ls ls.length : Nat)) ∧ Below w.heap.size w w' := by
  have HB := Lib.hid hB; have HRG := Lib.hid hr; clear hB hr
  go_enter Try.func85, Try.ntmps85
  go_wp2
  go_loopw [3, 8] (fun q i wr => ∃ k m : Nat, k ≤ ls.length ∧ m < 32768 ∧ i = .int .i64 k ∧ q = .int .u64 m ∧ Hid (Below w.heap.size w wr ∧ m = bitsL ls k)) (fun _ i _ => ls.length - (intOf i).toNat)
  case atStart => exact ⟨0, 0, by omega, by omega, rfl, rfl, Below.refl _ _, rfl⟩
  case round =>
    obtain ⟨k, m, hk, hm, rfl, rfl, HC⟩ := hrel
    by_cases hlt : k < ls.length
    · obtain ⟨b1, o1, hA1, hb1, p0⟩ := (HB.out.below HC.out.1).at_ hlt
      subst hA1
      obtain ⟨p, hp⟩ := Int.eq_ofNat_of_zero_le (HRG.out k hlt).1
      have hp15 : p < 15 := by have := (HRG.out k hlt).2; omega
      rw [hp] at p0
      have HN : Hid (bitsL ls (k + 1) = bitsL ls k ||| 2 ^ p) := by unfold Hid; rw [bitsL, hp]; rfl
      have h2p : 2 ^ p < 32768 := by have : 2 ^ p < 2 ^ 15 := Nat.pow_lt_pow_right (by omega) hp15; simpa using this
      have hor := bits_or_u m (2 ^ p) (by omega) (by omega)
      have hmx : m ||| 2 ^ p < 32768 := by
        have : m ||| 2 ^ p < 2 ^ 15 := Nat.or_lt_two_pow (by simpa using hm) (by simpa using h2p)
        simpa using this
      have HW2 : Hid (bits .or .u64 (m : Int) (IntKind.u64.wrap ((2 : Int) ^ p)) = ((m ||| 2 ^ p : Nat) : Int)) := by
        have e : IntKind.u64.wrap ((2 : Int) ^ p) = ((2 ^ p : Nat) : Int) := by have : ((2 : Int) ^ p) = ((2 ^ p : Nat) : Int) := by push_cast; rfl
                                                                                rw [this]; exact wrap_u64_nat (2 ^ p) (by omega)
        unfold Hid; rw [e]; exact hor
      clear hp hor
      go_wp2
      go_roundw
      case rel => exact ⟨k + 1, m ||| 2 ^ p, by omega, hmx, by go_num, val_int HW2.out, HC.out.1, by rw [HN.out, HC.out.2]⟩
      case measure => simp [intOf]; omega
    · obtain rfl : k = ls.length := by omega
      go_wp2
      go_ret
      exact ⟨ret_int (by rw [HC.out.2]), HC.out.1⟩

theorem setHas_any (s p : Nat) (w : World) (hs : s < 32768) (hp : p < 15) :
    Calls Try.prog 111 #[.int .u64 (s : Int), .int .i64 (p : Int)] w fun e w' => e = .returned (.bool (s.testBit p)) ∧ w = w' := by
  go_enter Try.func111, Try.ntmps111
  go_wp2
  go_ret
  refine ⟨ret_bool ?_, rfl⟩
  have e1 : (s : Int) / 2 ^ p = ((s / 2 ^ p : Nat) : Int) := by push_cast; rfl
  have hd : s / 2 ^ p < 4611686018427387904 := Nat.lt_of_le_of_lt (Nat.div_le_self _ _) (by omega)
  have e2 := bits_and_u (s / 2 ^ p) 1 hd (by omega)
  rw [e1]
  show (bits BinOp.and IntKind.u64 ((s / 2 ^ p : Nat) : Int) ((1 : Nat) : Int) == 1) = _
  rw [e2, Nat.and_one_is_mod, Nat.testBit_eq_decide_div_mod_eq]
  rw [Bool.eq_iff_iff, beq_iff_eq, decide_eq_true_eq]
  omega

/-- the points of a set, in order -/
theorem setList_any (s : Nat) (w : World) (hs : s < 32768) :
    Calls Try.prog 86 #[.int .u64 (s : Int)] w fun e w' => ∃ u, e = .returned u ∧ Ro w' w.heap.size u (ptsN s 15) ∧ Below w.heap.size w w' := by
  obtain ⟨ni0, hni, hni0, hni1, hni2⟩ := info_parts infoInt'
  go_enter Try.func86, Try.ntmps86
  go_wp2
  go_loopw [3, 5] (fun u i wr => ∃ k : Nat, k ≤ 15 ∧ i = .int .i64 k ∧ Hid (Below w.heap.size w wr ∧ Ro wr w.heap.size u (ptsN s k))) (fun _ i _ => 15 - (intOf i).toNat)
  case atStart => exact ⟨0, by omega, rfl, Below.refl _ _, World.ownsRow_nil _ _ _ _⟩
  case round =>
    obtain ⟨k, hk, rfl, HC⟩ := hrel
    have HN : Hid (ptsN s (k + 1) = ptsN s k ++ (if s.testBit k = true then [(k : Int)] else [])) := rfl
    have hll := ptsN_len s k
    by_cases hlt : k < 15
    · go_wp2_with fail
      refine (setHas_any s k _ hs hlt).mono ?_
      cases hb : s.testBit k
      · rintro e w' ⟨rfl, rfl⟩
        go_wp2
        go_roundw
        case rel => exact ⟨k + 1, by omega, by go_num, HC.out.1, by rw [HN.out, hb, if_neg (by simp), List.append_nil]; exact HC.out.2⟩
        case measure => simp [intOf]; omega
      · rintro e w' ⟨rfl, rfl⟩
        have HB2 := Lib.hid HC.out.1
        have HO : Hid (wr.ownsRow w.heap.size 2 1 u3 (ptsN s k).length ((ptsN s k).map (Value.int .i64))) := HC.out.2
        have hbw_ := HB2.out.size; go_wp2_with (at_builtin; refine wpList_append_own _ rfl _ _ 39 rfl (w).heap.size 2 ni0 (.int .i64 0) 1 8 Try.underlying39 hni hni0 hni1 hni2 rfl (by decide) _ _ _ rfl (HO.out.alloc _) ⟨(wr).heap.size, 0, none⟩ 1 1 [.int .i64 (k)] rfl rfl (cells_new _ _ _) (by simp [Value.oneCell']) (by unfold maxLen; omega) (by omega) (by simp; omega) ?_; intro v2 w2 hown2 hg2 _); have HO2 := Lib.hid hown2; have HB3 : Hid (Below (w).heap.size (w) w2) := (HB2.out.alloc HB2.out.size _).grown hg2 (by simp; omega) (own_block HO.out); clear hown2 hg2 hbw_
        go_wp2
        go_roundw
        case rel => exact ⟨k + 1, by omega, by go_num, HB3.out, by rw [HN.out, if_pos hb]; have h2 := HO2.out; unfold Ro; simpa using h2⟩
        case measure => simp [intOf]; omega
    · obtain rfl : k = 15 := by omega
      go_wp2
      go_ret
      exact ⟨_, rfl, HC.out.2, HC.out.1⟩

end Go.Proofs.Ytgbkonnmjmlalaa

/- Plain laws of the classes: the sets by the least point that is left are the sets in order. Conditions: none. -/
namespace Go.Proofs.Ytgbkonnmjmlalaa

/-- the least number from k on, of f tries, that is in all and not in m -/
def lowP (all m : Nat) : Nat → Nat → Nat
  | 0, k => k
  | f + 1, k => if all.testBit k && !m.testBit k then k else lowP all m f (k + 1)
theorem lowP_spec (all m : Nat) : ∀ f k p, k ≤ p → p < k + f → all.testBit p = true → m.testBit p = false → (∀ q, k ≤ q → q < p → ¬ (all.testBit q = true ∧ m.testBit q = false)) → lowP all m f k = p := by
  intro f
  induction f with
  | zero => intro k p h1 h2; omega
  | succ f ih =>
    intro k p h1 h2 h3 h4 h5
    rw [lowP]
    by_cases e : k = p
    · subst e; rw [if_pos (by simp [h3, h4])]
    · have h6 := h5 k (Nat.le_refl _) (by omega)
      rw [if_neg (by simp only [Bool.and_eq_true, Bool.not_eq_true']; exact h6)]
      exact ih (k + 1) p (by omega) (by omega) h3 h4 (fun q hq => h5 q (by omega))
def inA (all : Nat) (b : Blk) : Bool := maskB b &&& all == maskB b
/-- the sets that go on from one, by the least point that is left -/
noncomputable def clsL (xs : List Blk) (all : Nat) : Nat → List Int → Nat → List (List Int)
  | 0, now, m => if m = all then [now] else []
  | d + 1, now, m => if m = all then [now] else
      loopL (fun i => clsL xs all d (now ++ [(i : Int)]) (m ||| maskB (nth xs i))) (fun i => hasB (nth xs i) (lowP all m 15 0 : Nat) && (maskB (nth xs i) &&& m == 0) && inA all (nth xs i)) 0 xs.length
/-- the number of the sets in order -/
def cntA (xs : List Blk) (all : Nat) : Nat → Nat → Nat → Nat
  | 0, _, _ => 1
  | d + 1, m, a => loopS (fun i => cntA xs all d (m ||| maskB (nth xs i)) (i + 1)) (fun i => (maskB (nth xs i) &&& m == 0) && inA all (nth xs i)) a xs.length
/-- the points that are left -/
def left (all m : Nat) : Nat := cntF (fun j => all.testBit j && !m.testBit j) 15
theorem inA_iff {b : Blk} (hg : goodB 15 b = true) {all : Nat} : inA all b = true ↔ ∀ j : Nat, hasB b j = true → all.testBit j = true := by
  unfold inA
  rw [beq_iff_eq]
  constructor
  · intro h j hj
    have : (maskB b &&& all).testBit j = (maskB b).testBit j := by rw [h]
    rw [Nat.testBit_and, maskB_bit hg, hj] at this
    simpa using this
  · intro h
    apply Nat.eq_of_testBit_eq
    intro j
    rw [Nat.testBit_and, maskB_bit hg]
    cases hj : hasB b j
    · rfl
    · rw [h j hj]; rfl
theorem dj_iff {b : Blk} (hg : goodB 15 b = true) {m : Nat} : (maskB b &&& m == 0) = true ↔ ∀ j : Nat, hasB b j = true → m.testBit j = false := by
  rw [beq_iff_eq]
  constructor
  · intro h j hj
    have : (maskB b &&& m).testBit j = false := by rw [h]; simp
    rw [Nat.testBit_and, maskB_bit hg, hj] at this
    simpa using this
  · intro h
    apply Nat.eq_of_testBit_eq
    intro j
    rw [Nat.testBit_and, maskB_bit hg]
    cases hj : hasB b j
    · simp
    · rw [h j hj]; simp
theorem left_step {b : Blk} (hg : goodB 15 b = true) {all m : Nat} (hd : (maskB b &&& m == 0) = true) (hi : inA all b = true) : left all m = left all (m ||| maskB b) + 3 := by
  have h3 := cnt_blk hg (2 ^ 15 - 1)
  have hb := good_bd hg
  have e3 : cntF (fun j => hasB b j) 15 = 3 := by
    rw [cntF_has hg, if_pos (by omega), if_pos (by omega), if_pos (by omega)]
  have := cntF_or (f := fun j => all.testBit j && !(m ||| maskB b).testBit j) (g := fun j => hasB b j) (h := fun j => all.testBit j && !m.testBit j) 15 (fun j _ => by
    rw [Nat.testBit_or, maskB_bit hg]
    have h1 := (inA_iff hg).1 hi j
    have h2 := (dj_iff hg).1 hd j
    cases hj : hasB b j
    · simp
    · rw [h1 hj, h2 hj]; simp)
  unfold left
  omega
theorem left_zero {all m : Nat} (ha : all < 32768) (hm : m < 32768) (hsub : ∀ j, m.testBit j = true → all.testBit j = true) : left all m = 0 ↔ m = all := by
  have hbig : ∀ x j, x < 32768 → 15 ≤ j → x.testBit j = false := fun x j hx hj => Nat.testBit_lt_two_pow (Nat.lt_of_lt_of_le hx (by have : 2 ^ 15 ≤ 2 ^ j := Nat.pow_le_pow_right (by omega) hj; simpa using this))
  constructor
  · intro h
    apply Nat.eq_of_testBit_eq
    intro j
    by_cases hj : j < 15
    · have key : ∀ n, cntF (fun j => all.testBit j && !m.testBit j) n = 0 → ∀ j, j < n → (all.testBit j && !m.testBit j) = false := by
        intro n
        induction n with
        | zero => intro _ j hj; omega
        | succ n ih =>
          intro h j hj
          rw [cntF] at h
          by_cases e : j = n
          · subst e
            cases hh : (all.testBit j && !m.testBit j)
            · rfl
            · rw [hh] at h; simp at h
          · exact ih (by omega) j (by omega)
      have := key 15 h j hj
      cases hm1 : m.testBit j
      · rw [hm1] at this; simpa using this.symm
      · rw [hsub j hm1]
    · rw [hbig m j hm (by omega), hbig all j ha (by omega)]
  · rintro rfl
    unfold left
    have : ∀ n, cntF (fun j => m.testBit j && !m.testBit j) n = 0 := by
      intro n
      induction n with
      | zero => rfl
      | succ n ih => rw [cntF, ih]; cases m.testBit n <;> rfl
    exact this 15
theorem low_is {all m : Nat} (ha : all < 32768) (hm : m < 32768) (hsub : ∀ j, m.testBit j = true → all.testBit j = true) (hne : m ≠ all) : ∃ p, lowP all m 15 0 = p ∧ p < 15 ∧ all.testBit p = true ∧ m.testBit p = false ∧ ∀ q, q < p → all.testBit q = true → m.testBit q = true := by
  rcases first_of (P := fun j => all.testBit j && !m.testBit j) 15 with h | ⟨i, h1, h2, h3⟩
  · exfalso
    apply hne
    rw [← left_zero ha hm hsub]
    unfold left
    have : ∀ n, n ≤ 15 → cntF (fun j => all.testBit j && !m.testBit j) n = 0 := by
      intro n
      induction n with
      | zero => intro _; rfl
      | succ n ih => intro hn; rw [cntF, ih (by omega), h n (by omega)]; rfl
    exact this 15 (Nat.le_refl _)
  · simp only [Bool.and_eq_true, Bool.not_eq_true'] at h2
    have h4 : ∀ q, q < i → all.testBit q = true → m.testBit q = true := by
      intro q hq ha'
      have := h3 q hq
      rw [ha'] at this
      simpa using this
    refine ⟨i, lowP_spec all m 15 0 i (by omega) (by omega) h2.1 h2.2 (fun q _ hq hc => ?_), h1, h2.1, h2.2, h4⟩
    rw [h4 q hq hc.1] at hc; cases hc.2
/-- what is known on the way -/
structure Lead (xs : List Blk) (all : Nat) (now : List Int) (m : Nat) : Prop where
  alt : all < 32768
  mlt : m < 32768
  sub : ∀ j, m.testBit j = true → all.testBit j = true
  ris : risesI now xs.length
  fst : ∀ j, j < now.length → ∀ q : Nat, (q : Int) ≤ (blkAt xs now j).1 → all.testBit q = true → m.testBit q = true
theorem first_mono {v : Int} {xs : List Blk} (ha : areB v xs) {i j : Nat} (hj : j < xs.length) (hij : i ≤ j) : (nth xs i).1 ≤ (nth xs j).1 := by
  by_cases e : i = j
  · subst e; exact Int.le_refl _
  · have := are_bef ha j hj i (by omega)
    unfold befB at this
    simp only [decide_eq_true_eq] at this
    omega
theorem lead_fit {v : Int} {xs : List Blk} (hv : v ≤ 15) (ha : areB v xs) {all m : Nat} {now : List Int} (hL : Lead xs all now m) (hne : m ≠ all) {i : Nat} (hi : i < xs.length)
    (hp : hasB (nth xs i) (lowP all m 15 0 : Nat) = true) (hd : (maskB (nth xs i) &&& m == 0) = true) (hin : inA all (nth xs i) = true) : fromI now ≤ i ∧ Lead xs all (now ++ [(i : Int)]) (m ||| maskB (nth xs i)) ∧ (nth xs i).1 = (lowP all m 15 0 : Nat) := by
  have hg := good_mono (ha i hi).1 hv
  have hb := good_bd hg
  obtain ⟨p, hpe, hp15, hpa, hpm, hpq⟩ := low_is hL.alt hL.mlt hL.sub hne
  rw [hpe] at hp ⊢
  obtain ⟨B, hB⟩ := Int.eq_ofNat_of_zero_le hb.1
  have hB1 : hasB (nth xs i) B = true := has_iff.2 (.inl hB)
  have hBall := (inA_iff hg).1 hin B hB1
  have hBm := (dj_iff hg).1 hd B hB1
  have hpB : (B : Int) ≤ p := by rw [← hB]; rcases has_iff.1 hp with e | e | e <;> omega
  have hfst : B = p := by
    rcases Nat.lt_or_ge B p with hlt | hge
    · rw [hpq B hlt hBall] at hBm; cases hBm
    · omega
  have hfrom : fromI now ≤ i := by
    unfold fromI
    split
    · omega
    · rename_i hn
      have hlast := (hL.ris (now.length - 1) (by omega)).1
      rcases Nat.lt_or_ge i ((nthI now (now.length - 1)).toNat + 1) with hlt | hge
      · exfalso
        have hm := first_mono ha (i := i) (j := (nthI now (now.length - 1)).toNat) (by omega) (by omega)
        have hf := hL.fst (now.length - 1) (by omega) p (by unfold blkAt; omega) hpa
        rw [hf] at hpm; cases hpm
      · exact hge
  refine ⟨hfrom, ⟨hL.alt, ?_, fun j hj => ?_, rises_snoc hL.ris hi hfrom, fun j hj q hq ha' => ?_⟩, by omega⟩
  · have hml := maskB_lt hg
    have : m ||| maskB (nth xs i) < 2 ^ 15 := Nat.or_lt_two_pow (by simpa using hL.mlt) (by simpa using hml)
    simpa using this
  · rw [Nat.testBit_or, Bool.or_eq_true, maskB_bit hg] at hj
    rcases hj with h | h
    · exact hL.sub j h
    · exact (inA_iff hg).1 hin j h
  · rw [Nat.testBit_or, Bool.or_eq_true, maskB_bit hg]
    rw [List.length_append, List.length_singleton] at hj
    by_cases e : j = now.length
    · subst e
      rw [blkAt_last] at hq
      by_cases eq : q = p
      · subst eq; exact .inr hp
      · exact .inl (hpq q (by omega) ha')
    · rw [blkAt_app (by omega)] at hq
      exact .inl (hL.fst j (by omega) q hq ha')
theorem cntF_mono' {f g : Nat → Bool} (n : Nat) (h : ∀ j, j < n → f j = true → g j = true) : cntF f n ≤ cntF g n := by
  induction n with
  | zero => simp [cntF]
  | succ n ih =>
    have h1 := ih (fun j hj => h j (by omega)); have h2 := h n (by omega)
    rw [cntF, cntF]
    cases hf : f n <;> cases hg : g n <;> simp_all <;> omega
theorem cntA_dead {v : Int} {xs : List Blk} (hv : v ≤ 15) (ha : areB v xs) {all : Nat} (p : Nat) (hp : all.testBit p = true) (hp15 : p < 15) : ∀ d m a, m.testBit p = false → 3 * d = left all m → (∀ j, a ≤ j → j < xs.length → hasB (nth xs j) p = false) → cntA xs all d m a = 0 := by
  intro d
  induction d with
  | zero =>
    intro m a hm hd _
    exfalso
    have h1 := cntF_mono' (f := fun j => decide (j = p)) (g := fun j => all.testBit j && !m.testBit j) 15 (fun j _ h => by simp only [decide_eq_true_eq] at h; subst h; rw [hp, hm]; rfl)
    rw [cntF_eq p 15 hp15] at h1
    unfold left at hd
    omega
  | succ d ih =>
    intro m a hm hd hno
    rw [cntA]
    have key : ∀ n, n ≤ xs.length → loopS (fun i => cntA xs all d (m ||| maskB (nth xs i)) (i + 1)) (fun i => (maskB (nth xs i) &&& m == 0) && inA all (nth xs i)) a n = 0 := by
      intro n
      induction n with
      | zero => intro _; rfl
      | succ n ihn =>
        intro hn
        rw [loopS, ihn (by omega)]
        split
        · rename_i hc
          obtain ⟨h1, h2⟩ := hc
          simp only [Bool.and_eq_true] at h2
          have hg := good_mono (ha n (by omega)).1 hv
          rw [ih _ _ ?_ ?_ (fun j hj => hno j (by omega))]
          · rw [Nat.testBit_or, hm, maskB_bit hg, hno n h1 (by omega)]; rfl
          · have := left_step hg h2.1 h2.2; omega
        · rfl
    exact key xs.length (Nat.le_refl _)

theorem loopS_zero {f : Nat → Nat} {p : Nat → Bool} {a : Nat} : ∀ n, (∀ i, a ≤ i → i < n → p i = true → f i = 0) → loopS f p a n = 0 := by
  intro n
  induction n with
  | zero => intro _; rfl
  | succ n ih =>
    intro h
    rw [loopS, ih (fun i h1 h2 => h i h1 (by omega))]
    split
    · rename_i hc; rw [h n hc.1 (by omega) hc.2]
    · rfl
theorem loop_count {f : Nat → List (List Int)} {g : Nat → Nat} {p q : Nat → Bool} {a n : Nat} (h : ∀ i, i < n → (p i = true → a ≤ i ∧ q i = true ∧ (f i).length = g i) ∧ (a ≤ i → q i = true → p i = false → g i = 0)) : ∀ m, m ≤ n → (loopL f p 0 m).length = loopS g q a m := by
  intro m
  induction m with
  | zero => intro _; rfl
  | succ m ih =>
    intro hm
    rw [loopL, loopS, List.length_append, ih (by omega)]
    obtain ⟨h1, h2⟩ := h m (by omega)
    cases hp : p m
    · rw [if_neg (by simp)]
      by_cases hc : a ≤ m ∧ q m = true
      · rw [if_pos hc, h2 hc.1 hc.2 hp]; rfl
      · rw [if_neg hc]; rfl
    · obtain ⟨k1, k2, k3⟩ := h1 hp
      rw [if_pos ⟨Nat.zero_le _, rfl⟩, if_pos ⟨k1, k2⟩, k3]
theorem cls_len {v : Int} {xs : List Blk} (hv : v ≤ 15) (ha : areB v xs) {all : Nat} : ∀ d now m, Lead xs all now m → 3 * d = left all m → (clsL xs all d now m).length = cntA xs all d m (fromI now) := by
  intro d
  induction d with
  | zero =>
    intro now m hL hd
    have := (left_zero hL.alt hL.mlt hL.sub).1 (by omega)
    rw [clsL, if_pos this]; rfl
  | succ d ih =>
    intro now m hL hd
    have hne : m ≠ all := fun e => by have := (left_zero hL.alt hL.mlt hL.sub).2 e; omega
    rw [clsL, if_neg hne, cntA]
    refine loop_count (n := xs.length) (fun i hi => ⟨fun hp => ?_, fun h1 h2 h3 => ?_⟩) xs.length (Nat.le_refl _)
    · simp only [Bool.and_eq_true] at hp
      obtain ⟨⟨p1, p2⟩, p3⟩ := hp
      obtain ⟨k1, k2, k3⟩ := lead_fit hv ha hL hne hi p1 p2 p3
      have hg := good_mono (ha i hi).1 hv
      have hls := left_step hg p2 p3
      exact ⟨k1, by rw [p2, p3]; rfl, by rw [ih _ _ k2 (by omega), fromI_snoc]⟩
    · simp only [Bool.and_eq_true] at h2
      rw [h2.1, h2.2] at h3
      simp only [Bool.and_true] at h3
      obtain ⟨p, hpe, hp15, hpa, hpm, hpq⟩ := low_is hL.alt hL.mlt hL.sub hne
      rw [hpe] at h3
      have hg := good_mono (ha i hi).1 hv
      have hb := good_bd hg
      have hls := left_step hg h2.1 h2.2
      obtain ⟨B, hB⟩ := Int.eq_ofNat_of_zero_le hb.1
      have hB1 : hasB (nth xs i) B = true := has_iff.2 (.inl hB)
      have hBall := (inA_iff hg).1 h2.2 B hB1
      have hBm := (dj_iff hg).1 h2.1 B hB1
      have hBp : p < B := by
        rcases Nat.lt_trichotomy B p with h | h | h
        · rw [hpq B h hBall] at hBm; cases hBm
        · rw [h, h3] at hB1; cases hB1
        · exact h
      refine cntA_dead hv ha p hpa hp15 d _ _ ?_ (by omega) (fun j hj hjl => ?_)
      · rw [Nat.testBit_or, hpm, maskB_bit hg, h3]; rfl
      · have hm := first_mono ha (i := i) hjl (by omega)
        have hgj := good_bd (ha j hjl).1
        rw [← Bool.not_eq_true, has_iff]
        omega
theorem cls_none {v : Int} {xs : List Blk} (hv : v ≤ 15) (ha : areB v xs) {all : Nat} : ∀ d now m, Lead xs all now m → left all m % 3 ≠ 0 → clsL xs all d now m = [] := by
  intro d
  induction d with
  | zero =>
    intro now m hL hd
    have hne : m ≠ all := fun e => by have := (left_zero hL.alt hL.mlt hL.sub).2 e; omega
    rw [clsL, if_neg hne]
  | succ d ih =>
    intro now m hL hd
    have hne : m ≠ all := fun e => by have := (left_zero hL.alt hL.mlt hL.sub).2 e; omega
    rw [clsL, if_neg hne, loopL_empty]
    intro i _ hi hp
    simp only [Bool.and_eq_true] at hp
    obtain ⟨⟨p1, p2⟩, p3⟩ := hp
    obtain ⟨k1, k2, k3⟩ := lead_fit hv ha hL hne hi p1 p2 p3
    have hls := left_step (good_mono (ha i hi).1 hv) p2 p3
    exact ih _ _ k2 (by omega)
/-- all points -/
def allM (n : Nat) : Nat := 2 ^ n - 1
theorem allM_bit (n j : Nat) : (allM n).testBit j = decide (j < n) := by unfold allM; exact Nat.testBit_two_pow_sub_one n j
theorem allM_lt {n : Nat} (h : n ≤ 15) : allM n < 32768 := by
  have : 2 ^ n ≤ 2 ^ 15 := Nat.pow_le_pow_right (by omega) h
  have e : 2 ^ 15 = 32768 := by decide
  unfold allM; omega
theorem cntA_all {n : Nat} {xs : List Blk} (ha : areB n xs) (hn : n ≤ 15) : ∀ d m a, cntA xs (allM n) d m a = cntS xs d m a := by
  intro d
  induction d with
  | zero => intro m a; rfl
  | succ d ih =>
    intro m a
    rw [cntA, cntS]
    have key : ∀ k, k ≤ xs.length → loopS (fun i => cntA xs (allM n) d (m ||| maskB (nth xs i)) (i + 1)) (fun i => (maskB (nth xs i) &&& m == 0) && inA (allM n) (nth xs i)) a k = loopS (fun i => cntS xs d (m ||| maskB (nth xs i)) (i + 1)) (fun i => maskB (nth xs i) &&& m == 0) a k := by
      intro k
      induction k with
      | zero => intro _; rfl
      | succ k ihk =>
        intro hk
        have hg := ha k (by omega)
        have hin : inA (allM n) (nth xs k) = true := (inA_iff (good_mono hg.1 (by omega))).2 fun j hj => by
          rw [allM_bit]
          have := good_bd hg.1
          have := has_iff.1 hj
          simp only [decide_eq_true_eq]; omega
        rw [loopS, loopS, ihk (by omega), ih, hin, Bool.and_true]
    exact key xs.length (Nat.le_refl _)
theorem left_all {n : Nat} (hn : n ≤ 15) : left (allM n) 0 = n := by
  unfold left
  rw [cntF_congr (g := fun j => decide (j < n)) 15 (fun j _ => by rw [allM_bit]; simp)]
  have : ∀ k, cntF (fun j => decide (j < n)) k = min n k := by
    intro k
    induction k with
    | zero => simp [cntF]
    | succ k ih => rw [cntF, ih]; by_cases h : k < n <;> simp [h] <;> omega
  rw [this]; omega
/-- all points but one -/
def butM (n q : Nat) : Nat := allM n - 2 ^ q
theorem butM_small : ∀ n, n < 16 → ∀ q, q < n → ∀ j, j < 16 → (butM n q).testBit j = (decide (j < n) && decide (j ≠ q)) := by decide +kernel
theorem butM_lt {n q : Nat} (hn : n ≤ 15) : butM n q < 32768 := by have h := allM_lt hn; unfold butM; exact Nat.lt_of_le_of_lt (Nat.sub_le _ _) h
theorem butM_bit {n q : Nat} (hn : n ≤ 15) (hq : q < n) (j : Nat) : (butM n q).testBit j = (decide (j < n) && decide (j ≠ q)) := by
  by_cases hj : j < 16
  · exact butM_small n (by omega) q hq j hj
  · have h1 := butM_lt (q := q) hn
    rw [Nat.testBit_lt_two_pow (Nat.lt_of_lt_of_le h1 (by have : 2 ^ 15 ≤ 2 ^ j := Nat.pow_le_pow_right (by omega) (by omega); simpa using this))]
    have : ¬ j < n := by omega
    simp [this]
theorem cntF_cut (f : Nat → Bool) (n : Nat) : ∀ k, cntF (fun j => decide (j < n) && f j) (n + k) = cntF f n := by
  intro k
  induction k with
  | zero => exact cntF_congr n fun j hj => by simp [hj]
  | succ k ih =>
    rw [← Nat.add_assoc, cntF, ih]
    have : ¬ n + k < n := by omega
    simp [this]
theorem left_allM {n : Nat} (hn : n ≤ 15) (m : Nat) : left (allM n) m = cntF (fun j => !m.testBit j) n := by
  unfold left
  rw [cntF_congr (g := fun j => decide (j < n) && !m.testBit j) 15 (fun j _ => by rw [allM_bit])]
  have := cntF_cut (fun j => !m.testBit j) n (15 - n)
  have e : n + (15 - n) = 15 := by omega
  rwa [e] at this
theorem left_but {n q : Nat} (hn : n ≤ 15) (hq : q < n) : left (butM n q) 0 = n - 1 := by
  have h1 := left_all hn
  have h2 := cntF_or (f := fun j => (butM n q).testBit j && !(0 : Nat).testBit j) (g := fun j => decide (j = q)) (h := fun j => (allM n).testBit j && !(0 : Nat).testBit j) 15 (fun j _ => by
    rw [butM_bit hn hq, allM_bit]
    by_cases e : j = q
    · subst e; simp [hq]
    · simp [e])
  rw [cntF_eq q 15 (by omega)] at h2
  unfold left at *
  omega
theorem loopS_sum (f : Nat → Nat) (p : Nat → Bool) (a : Nat) : ∀ n, loopS f p a n = sumN (fun i => if a ≤ i ∧ p i = true then f i else 0) n := by
  intro n
  induction n with
  | zero => rfl
  | succ n ih => rw [loopS, sumN, ih]
theorem sumN_swap' (f : Nat → Nat → Nat) (n : Nat) : ∀ m, sumN (fun i => sumN (f i) n) m = sumN (fun j => sumN (fun i => f i j) m) n := by
  intro m
  induction m with
  | zero =>
    have : sumN (fun j => sumN (fun i => f i j) 0) n = sumN (fun _ => 0) n := sumN_congr n fun j _ => rfl
    rw [this, sumN_const]; simp [sumN]
  | succ m ih =>
    rw [sumN, ih, ← sumN_add]
    exact sumN_congr n fun j _ => rfl
theorem near_sum {n : Nat} {xs : List Blk} (ha : areB n xs) (hn : n ≤ 15) : ∀ d m a, left (allM n) m = 3 * d + 1 → sumN (fun q => if m.testBit q = true then 0 else cntA xs (butM n q) d m a) n = cntS xs d m a := by
  intro d
  induction d with
  | zero =>
    intro m a h
    rw [left_allM hn, ← sumN_cnt] at h
    have e : sumN (fun q => if m.testBit q = true then 0 else cntA xs (butM n q) 0 m a) n = sumN (fun i => if (!m.testBit i) = true then 1 else 0) n := sumN_congr n fun q _ => by cases m.testBit q <;> simp [cntA]
    rw [cntS, e, h]
  | succ d ih =>
    intro m a h
    rw [cntS, loopS_sum]
    have e1 : ∀ q, q < n → (if m.testBit q = true then 0 else cntA xs (butM n q) (d + 1) m a) = sumN (fun i => if m.testBit q = true then 0 else if a ≤ i ∧ ((maskB (nth xs i) &&& m == 0) && inA (butM n q) (nth xs i)) = true then cntA xs (butM n q) d (m ||| maskB (nth xs i)) (i + 1) else 0) xs.length := by
      intro q hq
      rw [cntA, loopS_sum]
      cases hm : m.testBit q
      · exact sumN_congr _ fun i _ => by simp
      · rw [if_pos rfl, sumN_congr (g := fun _ => 0) _ (fun i _ => by simp), sumN_const]; simp
    rw [sumN_congr n e1, sumN_swap']
    refine sumN_congr _ fun i hi => ?_
    have hg := good_mono (ha i hi).1 (by omega : (n : Int) ≤ 15)
    by_cases hc : a ≤ i ∧ (maskB (nth xs i) &&& m == 0) = true
    · rw [if_pos hc]
      have hin : inA (allM n) (nth xs i) = true := (inA_iff hg).2 fun j hj => by
        rw [allM_bit]
        have := good_bd (ha i hi).1
        have := has_iff.1 hj
        simp only [decide_eq_true_eq]; omega
      rw [← ih (m ||| maskB (nth xs i)) (i + 1) (by have := left_step hg hc.2 hin; omega)]
      refine sumN_congr n fun q hq => ?_
      rw [Nat.testBit_or, maskB_bit hg, hc.2]
      cases hm : m.testBit q
      · cases hb : hasB (nth xs i) q
        · have : inA (butM n q) (nth xs i) = true := (inA_iff hg).2 fun j hj => by
            rw [butM_bit hn hq]
            have h1 := (inA_iff hg).1 hin j hj
            rw [allM_bit] at h1
            have : j ≠ q := fun e => by rw [e, hb] at hj; cases hj
            rw [h1]; simp [this]
          simp [this, hc.1]
        · have : inA (butM n q) (nth xs i) = false := by
            rw [← Bool.not_eq_true]
            intro h2
            have := (inA_iff hg).1 h2 q hb
            rw [butM_bit hn hq] at this
            simp at this
          simp [this]
      · simp
    · rw [if_neg hc]
      have : ∀ q, q < n → (if m.testBit q = true then 0 else if a ≤ i ∧ ((maskB (nth xs i) &&& m == 0) && inA (butM n q) (nth xs i)) = true then cntA xs (butM n q) d (m ||| maskB (nth xs i)) (i + 1) else 0) = (fun _ => 0) q := by
        intro q _
        have : ¬ (a ≤ i ∧ ((maskB (nth xs i) &&& m == 0) && inA (butM n q) (nth xs i)) = true) := fun h2 => hc ⟨h2.1, by have := h2.2; simp only [Bool.and_eq_true] at this; exact this.1⟩
        rw [if_neg this]; simp
      rw [sumN_congr n this, sumN_const]; simp
theorem lead_nil (xs : List Blk) {all : Nat} (h : all < 32768) : Lead xs all [] 0 := ⟨h, by omega, fun j hj => by simp at hj, fun k hk => by simp at hk, fun j hj => by simp at hj⟩
theorem full_count {n : Nat} {xs : List Blk} (ha : areB n xs) (hn : n ≤ 15) : (clsL xs (allM n) (n / 3) [] 0).length = if n % 3 = 0 then cntS xs (n / 3) 0 0 else 0 := by
  have hl := left_all hn
  split
  · rename_i h
    rw [cls_len (v := n) (by omega) ha _ _ _ (lead_nil xs (allM_lt hn)) (by omega), cntA_all ha hn]; rfl
  · rename_i h
    rw [cls_none (v := n) (by omega) ha _ _ _ (lead_nil xs (allM_lt hn)) (by omega)]; rfl
theorem near_count {n : Nat} {xs : List Blk} (ha : areB n xs) (hn : n ≤ 15) (hn3 : 3 ≤ n) : sumN (fun q => (clsL xs (butM n q) (n / 3) [] 0).length) n = if n % 3 = 1 then cntS xs (n / 3) 0 0 else 0 := by
  split
  · rename_i h
    rw [← near_sum ha hn (n / 3) 0 0 (by rw [left_all hn]; omega)]
    refine sumN_congr n fun q hq => ?_
    rw [cls_len (v := n) (by omega) ha _ _ _ (lead_nil xs (butM_lt hn)) (by rw [left_but hn hq]; omega)]
    simp [fromI]
  · rename_i h
    have : ∀ q, q < n → (clsL xs (butM n q) (n / 3) [] 0).length = (fun _ => 0) q := by
      intro q hq
      rw [cls_none (v := n) (by omega) ha _ _ _ (lead_nil xs (butM_lt hn)) (by rw [left_but hn hq]; omega)]; rfl
    rw [sumN_congr n this, sumN_const]; simp

end Go.Proofs.Ytgbkonnmjmlalaa

/- Contracts of codes of point sets, of closed sets and of the points of a set; conditions: stated in each. -/
namespace Go.Proofs.Ytgbkonnmjmlalaa
open Go.RowKit
set_option maxHeartbeats 1000000
set_option maxRecDepth 100000
set_option linter.unusedSimpArgs false
set_option linter.unusedVariables false

/-- the code of a system and of a set of points -/
noncomputable def spnCode (v : Int) (xs : List Blk) (ls : List Int) : Int := if isSysB v xs = true then (if risesB ls v = true then 0 else 2) else 1
theorem spnCode_zero {v : Int} {xs : List Blk} {ls : List Int} (h : spnCode v xs ls = 0) : isSysB v xs = true ∧ risesB ls v = true := by
  unfold spnCode at h; (repeat' split at h) <;> simp_all
theorem spn_pt {v : Int} {xs : List Blk} {ls : List Int} (h : ptCode v xs ls ≠ 0) : spnCode v xs ls = ptCode v xs ls := by
  unfold spnCode ptCode at *
  by_cases hs : isSysB v xs = true
  · rw [if_pos hs] at h
    rw [if_pos hs, if_pos hs]
    by_cases ha : allInB ls (v - 1) = true
    · rw [if_pos ha] at h; exact absurd rfl h
    · rw [if_neg ha, if_neg]
      intro hr
      exact ha (allInB_iff.2 fun k hk => (risesB_iff.1 hr k hk).1)
  · rw [if_neg hs, if_neg hs]

theorem l01Set_any (v : Int) (A : Option Addr) (c : Nat) (xs : List Blk) (B : Option Addr) (d : Nat) (ls : List Int) (w : World) (hA : Bl w A xs) (hl : xs.length ≤ 1048576) (hB : Il w B ls) (hlb : ls.length ≤ 1048576) :
    Calls Try.prog 78 #[.agg #[.int .i64 v, .slice A xs.length c], .slice B ls.length d] w fun e w' => e = .returned (.int .i64 (spnCode v xs ls)) ∧ Below w.heap.size w w' := by
  have HB := Lib.hid hB; clear hB
  by_cases hp : ptCode v xs ls = 0
  · have HP : Hid (isSysB v xs = true ∧ ∀ j, j < ls.length → 0 ≤ nthI ls j ∧ nthI ls j ≤ v - 1) := by
      unfold ptCode at hp
      by_cases hs : isSysB v xs = true
      · rw [if_pos hs] at hp
        by_cases ha : allInB ls (v - 1) = true
        · exact ⟨hs, allInB_iff.1 ha⟩
        · rw [if_neg ha] at hp; cases hp
      · rw [if_neg hs] at hp; cases hp
    have HE : Hid (spnCode v xs ls = if risesB ls v = true then 0 else 2) := by unfold Hid spnCode; rw [if_pos HP.out.1]
    generalize spnCode v xs ls = R at *
    have HA := Lib.hid hA; clear hA; have HR := Lib.hid (Row.box w 30 (.int .i64 v) (.slice A xs.length c)); have HW := Lib.hid (Since.refl w); go_enter Try.func78, Try.ntmps78; go_wp2_with fail; replace HA := Lib.hid (HA.out.below (below_alloc _ (.cells #[.int .i64 v, .slice A xs.length c] 30))); replace HW := Lib.hid (HW.out.below (below_alloc _ (.cells #[.int .i64 v, .slice A xs.length c] 30))); replace HB := Lib.hid (HB.out.below (below_alloc _ (.cells #[.int .i64 v, .slice A xs.length c] 30)))
    refine (l01Points_any v A c xs B d ls _ HA.out hl HB.out hlb).mono ?_; rw [hp]; rintro e w_ ⟨rfl, hb⟩; replace HB := Lib.hid (HB.out.below hb); replace HW := Lib.hid (HW.out.below hb); replace HR := Lib.hid (HR.out.below hb); clear hb; (try clear c0 c1); obtain ⟨c0, c1⟩ := HR.out.c2
    go_wp2
    clear c0 c1
    go_loopw [6] (fun i wr => ∃ k : Nat, (k ≤ ls.length ∨ k = 1) ∧ 1 ≤ k ∧ i = .int .i64 k ∧ Below w_.heap.size w_ wr ∧ Hid (∀ j, j < k → j < ls.length → 0 < j → nthI ls (j - 1) < nthI ls j)) (fun i _ => ls.length - (intOf i).toNat)
    case atStart => exact ⟨1, .inr rfl, by omega, rfl, Below.refl _ _, fun j h1 h2 h3 => by omega⟩
    case round =>
      obtain ⟨k, hk, hk0, rfl, hb, HC⟩ := hrel
      by_cases hlt : k < ls.length
      · obtain ⟨b1, o1, hA1, hb1, p0⟩ := (HB.out.below hb).at_ hlt
        subst hA1
        obtain ⟨b2, o2, hA2, hb2, q0⟩ := (HB.out.below hb).at_ (k := k - 1) (by omega)
        simp only [Option.some.injEq, Addr.mk.injEq] at hA2
        obtain ⟨rfl, rfl, -⟩ := hA2
        by_cases hlo : nthI ls (k - 1) < nthI ls k
        · have hlo' : decide (nthI ls k ≤ nthI ls (k - 1)) = false := by simpa using hlo
          have HLO := Lib.hid hlo
          clear hlo
          go_wp2
          go_quiet (fail)
          go_wp2
          go_roundw
          case rel =>
            refine ⟨k + 1, .inl (by omega), by omega, by go_num, below_drewN hb _, fun j hj h2 h3 => ?_⟩
            by_cases hjk : j < k
            · exact HC.out j hjk h2 h3
            · obtain rfl : j = k := by omega
              exact HLO.out
          case measure => simp [intOf]; omega
        · have hlo' : decide (nthI ls k ≤ nthI ls (k - 1)) = true := by simpa using hlo
          have HLO := Lib.hid hlo
          clear hlo
          go_wp2
          go_quiet (fail)
          go_wp2
          go_ret
          refine ⟨ret_int ?_, HW.out.below (below_drewN hb _)⟩
          rw [HE.out, if_neg]
          exact fun h => absurd ((risesB_iff.1 h k hlt).2 (by omega)) (by have := HLO.out; omega)
      · have hle : (ls.length : Int) ≤ (k : Int) := by omega
        go_wp2
        go_ret
        refine ⟨ret_int ?_, HW.out.below hb⟩
        rw [HE.out, if_pos]
        exact risesB_iff.2 fun j hj => ⟨HP.out.2 j hj, fun h0 => HC.out j (by omega) hj h0⟩
  · have HE : Hid (spnCode v xs ls = ptCode v xs ls) := spn_pt hp
    have hne : (ptCode v xs ls != 0) = true := by simpa using hp
    rw [HE.out]
    obtain ⟨R, hR⟩ : ∃ R, ptCode v xs ls = R := ⟨_, rfl⟩
    rw [hR] at hne ⊢
    clear hp HE
    have HA := Lib.hid hA; clear hA; have HR := Lib.hid (Row.box w 30 (.int .i64 v) (.slice A xs.length c)); have HW := Lib.hid (Since.refl w); go_enter Try.func78, Try.ntmps78; go_wp2_with fail; replace HA := Lib.hid (HA.out.below (below_alloc _ (.cells #[.int .i64 v, .slice A xs.length c] 30))); replace HW := Lib.hid (HW.out.below (below_alloc _ (.cells #[.int .i64 v, .slice A xs.length c] 30))); replace HB := Lib.hid (HB.out.below (below_alloc _ (.cells #[.int .i64 v, .slice A xs.length c] 30)))
    refine (l01Points_any v A c xs B d ls _ HA.out hl HB.out hlb).mono ?_; rw [hR]; rintro e w_ ⟨rfl, hb⟩; replace HW := Lib.hid (HW.out.below hb); clear hb
    go_wp2
    go_ret
    exact ⟨rfl, HW.out⟩

theorem l07Closed_any (v : Int) (A : Option Addr) (c : Nat) (xs : List Blk) (s : Nat) (w : World) (hA : Bl w A xs) (hl : xs.length ≤ 1048576) (hs : isSys v xs) (h15 : s < 32768) :
    Calls Try.prog 87 #[.agg #[.int .i64 v, .slice A xs.length c], .int .i64 (s : Int)] w fun e w' => e = .returned (.bool (clB xs s)) ∧ Below w.heap.size w w' := by
  have HCI : Hid (clS xs s ↔ ∀ i, i < xs.length → onesF 15 (maskB (nth xs i) &&& s) ≠ 2) := by
    unfold Hid
    rw [closed_iff hs s]
    exact ⟨fun h i hi => by rw [ones_cnt]; exact h i hi, fun h i hi => by rw [← ones_cnt 15]; exact h i hi⟩
  have HG : Hid (∀ i, i < xs.length → goodB 15 (nth xs i) = true) := fun i hi => good_mono (hs.2.2.1 i hi).1 hs.1.2
  have HR := Lib.hid (Row.new w 30 #[.int .i64 v, .slice A xs.length c])
  have HW := Lib.hid (below_alloc w (.cells #[.int .i64 v, .slice A xs.length c] 30))
  have HA := Lib.hid (hA.below HW.out)
  have hl35 := hs.2.1
  clear hA hs
  go_enter Try.func87, Try.ntmps87
  go_wp2
  generalize w.alloc (.cells #[.int .i64 v, .slice A xs.length c] 30) = W at *
  go_loopw [5] (fun i wr => ∃ k : Nat, k ≤ xs.length ∧ i = .int .i64 k ∧ Hid (Below W.heap.size W wr ∧ ∀ i, i < k → onesF 15 (maskB (nth xs i) &&& s) ≠ 2)) (fun i _ => xs.length - (intOf i).toNat)
  case atStart => exact ⟨0, by omega, rfl, Below.refl _ _, fun i hi => by omega⟩
  case round =>
    obtain ⟨k, hk, rfl, HC⟩ := hrel
    obtain ⟨c0, c1⟩ := (HR.out.below HC.out.1).c2
    have hlr := (HR.out.below HC.out.1).lt
    by_cases hlt : k < xs.length
    · obtain ⟨b1, o1, hA1, hb1, p0, p1, p2⟩ := (HA.out.below HC.out.1).at_ hlt
      subst hA1
      have hkl : (k : Int) < (xs.length : Int) := by omega
      have hg := HG.out k hlt
      have hml := maskB_lt hg
      go_wp2_with fail
      refine (l05Bits_any (nth xs k) _ hg).mono ?_
      rintro e w1 ⟨rfl, hb⟩
      have HB1 := Lib.hid (below_up HC.out.1 hb)
      clear hb hg p0 p1 p2 hb1 c0 c1
      have HNX : Hid (onesF 15 (maskB (nth xs k) &&& s) = onesF 15 (maskB (nth xs k) &&& s)) := rfl
      obtain ⟨M, hM⟩ : ∃ M, maskB (nth xs k) = M := ⟨_, rfl⟩
      rw [hM] at hml ⊢
      have hm2 : M < 32768 := by simpa using hml
      have hand := bits_and_nat M s (by omega) (by omega)
      have hlt2 : M &&& s < 32768 := Nat.lt_of_le_of_lt Nat.and_le_left hm2
      have HM := Lib.hid hM
      clear hml hM
      go_wp2_with fail
      refine (l05Ones_any (M &&& s) _ hlt2).mono ?_
      obtain ⟨N, hN⟩ : ∃ N, onesF 15 (M &&& s) = N := ⟨_, rfl⟩
      rw [hN]
      rintro e w2 ⟨rfl, hb⟩
      have HB2 := Lib.hid (below_up HB1.out hb)
      have HNN := Lib.hid hN
      clear hb hN
      by_cases h2 : N = 2
      · subst h2
        go_wp2
        go_ret
        exact ⟨ret_bool (clB_false (fun h => HCI.out.1 h k hlt (by rw [HM.out]; exact HNN.out))).symm, below_up HW.out HB2.out⟩
      · have h3 : ((N : Int) == 2) = false := by simp; omega
        have H2 := Lib.hid h2
        clear h2
        go_wp2
        go_roundw
        case rel =>
          refine ⟨k + 1, by omega, by go_num, HB2.out, fun i hi => ?_⟩
          by_cases e : i = k
          · subst e; rw [HM.out, HNN.out]; exact H2.out
          · exact HC.out.2 i (by omega)
        case measure => simp [intOf]; omega
    · obtain rfl : k = xs.length := by omega
      go_wp2
      go_ret
      exact ⟨ret_bool (clB_true (HCI.out.2 HC.out.2)).symm, below_up HW.out HC.out.1⟩

theorem l07Points_any (s : Nat) (w : World) (hs : s < 32768) :
    Calls Try.prog 79 #[.int .i64 (s : Int)] w fun e w' => ∃ u, e = .returned u ∧ Ro w' w.heap.size u (ptsN s 15) ∧ Below w.heap.size w w' := by
  obtain ⟨ni0, hni, hni0, hni1, hni2⟩ := info_parts infoInt'
  have HB0 := Lib.hid (below_alloc w (.cells #[] 2))
  have HU0 : Hid (Ro (w.alloc (.cells #[] 2)) w.heap.size (.slice (some ⟨w.heap.size, 0, none⟩) 0 0) []) := World.ownsRow_made (base := w.heap.size) (e := 2) (size := 1) w #[] 0 (by omega) (by unfold maxLen; omega) (by simp)
  go_enter Try.func79, Try.ntmps79
  go_wp2
  generalize w.alloc (.cells #[] 2) = W at *
  go_loopw [3, 4] (fun u i wr => ∃ k : Nat, k ≤ 15 ∧ i = .int .i64 k ∧ Hid (Below w.heap.size w wr ∧ Ro wr w.heap.size u (ptsN s k))) (fun _ i _ => 15 - (intOf i).toNat)
  case atStart => exact ⟨0, by omega, rfl, HB0.out, HU0.out⟩
  case round =>
    obtain ⟨k, hk, rfl, HC⟩ := hrel
    have HN : Hid (ptsN s (k + 1) = ptsN s k ++ (if s.testBit k = true then [(k : Int)] else [])) := rfl
    have hll := ptsN_len s k
    by_cases hlt : k < 15
    · have hq : (bits .and .i64 ((s : Int) / 2 ^ k) 1 == 1) = s.testBit k := by
        have e1 : (s : Int) / 2 ^ k = ((s / 2 ^ k : Nat) : Int) := by push_cast; rfl
        have hd : s / 2 ^ k < 4611686018427387904 := Nat.lt_of_le_of_lt (Nat.div_le_self _ _) (by omega)
        have e2 := bits_and_nat (s / 2 ^ k) 1 hd (by omega)
        rw [e1]
        show (bits BinOp.and IntKind.i64 ((s / 2 ^ k : Nat) : Int) ((1 : Nat) : Int) == 1) = _
        rw [e2, Nat.and_one_is_mod, Nat.testBit_eq_decide_div_mod_eq]
        rw [Bool.eq_iff_iff, beq_iff_eq, decide_eq_true_eq]
        omega
      cases hb : s.testBit k
      · rw [hb] at hq
        go_wp2
        go_roundw
        case rel => exact ⟨k + 1, by omega, by go_num, HC.out.1, by rw [HN.out, hb, if_neg (by simp), List.append_nil]; exact HC.out.2⟩
        case measure => simp [intOf]; omega
      · rw [hb] at hq
        have HB2 := Lib.hid HC.out.1
        have HO : Hid (wr.ownsRow w.heap.size 2 1 u3 (ptsN s k).length ((ptsN s k).map (Value.int .i64))) := HC.out.2
        have hbw_ := HB2.out.size; go_wp2_with (at_builtin; refine wpList_append_own _ rfl _ _ 39 rfl (w).heap.size 2 ni0 (.int .i64 0) 1 8 Try.underlying39 hni hni0 hni1 hni2 rfl (by decide) _ _ _ rfl (HO.out.alloc _) ⟨(wr).heap.size, 0, none⟩ 1 1 [.int .i64 (k)] rfl rfl (cells_new _ _ _) (by simp [Value.oneCell']) (by unfold maxLen; omega) (by omega) (by simp; omega) ?_; intro v2 w2 hown2 hg2 _); have HO2 := Lib.hid hown2; have HB3 : Hid (Below (w).heap.size (w) w2) := (HB2.out.alloc HB2.out.size _).grown hg2 (by simp; omega) (own_block HO.out); clear hown2 hg2 hbw_
        go_wp2
        go_roundw
        case rel => exact ⟨k + 1, by omega, by go_num, HB3.out, by rw [HN.out, if_pos hb]; have h2 := HO2.out; unfold Ro; simpa using h2⟩
        case measure => simp [intOf]; omega
    · obtain rfl : k = 15 := by omega
      go_wp2
      go_ret
      exact ⟨_, rfl, HC.out.2, HC.out.1⟩

theorem implSetCode_any (v : Int) (A : Option Addr) (c : Nat) (xs : List Blk) (B : Option Addr) (d : Nat) (ls : List Int) (w : World) (hA : Bl w A xs) (hl : xs.length ≤ 1048576) (hB : Il w B ls) (hlb : ls.length ≤ 1048576) :
    Calls Try.prog 82 #[.agg #[.int .i64 v, .slice A xs.length c], .slice B ls.length d] w fun e w' => e = .returned (.int .i64 (spnCode v xs ls)) ∧ Below w.heap.size w w' := by
  have HB := Lib.hid hB; clear hB
  cases hs : isSysB v xs
  · have HA := Lib.hid hA; clear hA; have HR := Lib.hid (Row.box w 30 (.int .i64 v) (.slice A xs.length c)); have HW := Lib.hid (Since.refl w); go_enter Try.func82, Try.ntmps82; go_wp2_with fail; replace HA := Lib.hid (HA.out.below (below_alloc _ (.cells #[.int .i64 v, .slice A xs.length c] 30))); replace HW := Lib.hid (HW.out.below (below_alloc _ (.cells #[.int .i64 v, .slice A xs.length c] 30)))
    refine (IsSystem_any v A c xs _ HA.out hl).mono ?_; rw [hs]; rintro e w_ ⟨rfl, hb⟩; replace HW := Lib.hid (HW.out.below hb); clear hb
    go_wp2
    go_ret
    exact ⟨ret_int (by simp [spnCode, hs]), HW.out⟩
  · have hv := (isSysB_iff.1 hs).1
    have HE : Hid (spnCode v xs ls = if risesB ls v = true then 0 else 2) := by unfold Hid spnCode; rw [if_pos hs]
    have HA := Lib.hid hA; clear hA; have HR := Lib.hid (Row.box w 30 (.int .i64 v) (.slice A xs.length c)); have HW := Lib.hid (Since.refl w); go_enter Try.func82, Try.ntmps82; go_wp2_with fail; replace HA := Lib.hid (HA.out.below (below_alloc _ (.cells #[.int .i64 v, .slice A xs.length c] 30))); replace HW := Lib.hid (HW.out.below (below_alloc _ (.cells #[.int .i64 v, .slice A xs.length c] 30))); replace HB := Lib.hid (HB.out.below (below_alloc _ (.cells #[.int .i64 v, .slice A xs.length c] 30)))
    refine (IsSystem_any v A c xs _ HA.out hl).mono ?_; rw [hs]; rintro e w_ ⟨rfl, hb⟩; replace HB := Lib.hid (HB.out.below hb); replace HW := Lib.hid (HW.out.below hb); replace HR := Lib.hid (HR.out.below hb); clear hb; (try clear c0 c1); obtain ⟨c0, c1⟩ := HR.out.c2
    have hlr := HR.out.lt
    go_wp2_with fail
    refine (rises_any B d ls v _ HB.out hlb (by omega) (by omega)).mono ?_
    cases hr : risesB ls v
    · rintro e w' ⟨rfl, rfl⟩
      go_wp2
      go_ret
      exact ⟨ret_int (by rw [HE.out, hr]; rfl), HW.out⟩
    · rintro e w' ⟨rfl, rfl⟩
      go_wp2
      go_ret
      exact ⟨ret_int (by rw [HE.out, hr]; rfl), HW.out⟩

end Go.Proofs.Ytgbkonnmjmlalaa

/- Plain laws of the least closed set: what the searches hold. Conditions: stated in each. -/
namespace Go.Proofs.Ytgbkonnmjmlalaa

noncomputable def spanN (xs : List Blk) (s0 : Nat) : Nat := open Classical in if h : ∃ s, spanP xs s0 s then Classical.choose h else 0
theorem spanN_eq {xs : List Blk} {s0 s : Nat} (h : spanP xs s0 s) : spanN xs s0 = s := by
  unfold spanN
  rw [dif_pos ⟨s, h⟩]
  exact span_uniq (Classical.choose_spec ⟨s, h⟩) h
/-- a part of the least closed set -/
def SI (xs : List Blk) (s0 s : Nat) : Prop := (∀ j, s0.testBit j = true → s.testBit j = true) ∧ s < 32768 ∧ ∀ S, clS xs S → (∀ j, s0.testBit j = true → S.testBit j = true) → ∀ j, s.testBit j = true → S.testBit j = true
theorem SI.fin {xs : List Blk} {s0 s : Nat} (h : SI xs s0 s) (hc : clS xs s) : spanN xs s0 = s := spanN_eq ⟨h.1, h.2.1, hc, h.2.2⟩
theorem SI.start {xs : List Blk} {s0 : Nat} (h : s0 < 32768) : SI xs s0 s0 := ⟨fun _ h => h, h, fun _ _ h => h⟩
theorem SI.orr {xs : List Blk} {s0 s m : Nat} (h : SI xs s0 s) (hm : m < 32768) (hS : ∀ S, clS xs S → (∀ j, s.testBit j = true → S.testBit j = true) → ∀ j, m.testBit j = true → S.testBit j = true) : SI xs s0 (s ||| m) := by
  refine ⟨fun j hj => by rw [Nat.testBit_or, h.1 j hj]; rfl, ?_, fun S hc h0 j hj => ?_⟩
  · have : s ||| m < 2 ^ 15 := Nat.or_lt_two_pow (by simpa using h.2.1) (by simpa using hm)
    simpa using this
  · rw [Nat.testBit_or, Bool.or_eq_true] at hj
    rcases hj with hj | hj
    · exact h.2.2 S hc h0 j hj
    · exact hS S hc (h.2.2 S hc h0) j hj
theorem or_up {s m j : Nat} (hm : m.testBit j = true) (hs : s.testBit j = false) : s < s ||| m := by
  rcases Nat.lt_or_eq_of_le (Nat.left_le_or : s ≤ s ||| m) with h | h
  · exact h
  · have := Nat.testBit_or s m j
    rw [← h, hs, hm] at this; cases this
theorem SI.mask {v : Int} {xs : List Blk} (hs : isSys v xs) {s0 s : Nat} (h : SI xs s0 s) {i : Nat} (hi : i < xs.length) (hc : cntF (fun j => (maskB (nth xs i) &&& s).testBit j) 15 = 2) : SI xs s0 (s ||| maskB (nth xs i)) ∧ s < s ||| maskB (nth xs i) := by
  have hg : goodB 15 (nth xs i) = true := good_mono (hs.2.2.1 i hi).1 hs.1.2
  have hlt := maskB_lt hg
  have hb := good_bd hg
  have hc0 := hc
  rw [cnt_blk hg] at hc
  refine ⟨h.orr (by simpa using hlt) fun S hS hsub j hj => ?_, ?_⟩
  · have h2 := (closed_iff hs S).1 hS i hi
    rw [cnt_blk hg] at h2
    have m0 := hsub (nth xs i).1.toNat
    have m1 := hsub (nth xs i).2.1.toNat
    have m2 := hsub (nth xs i).2.2.toNat
    have hall : S.testBit (nth xs i).1.toNat = true ∧ S.testBit (nth xs i).2.1.toNat = true ∧ S.testBit (nth xs i).2.2.toNat = true := by
      cases e0 : s.testBit (nth xs i).1.toNat <;> cases e1 : s.testBit (nth xs i).2.1.toNat <;> cases e2 : s.testBit (nth xs i).2.2.toNat <;>
      cases f0 : S.testBit (nth xs i).1.toNat <;> cases f1 : S.testBit (nth xs i).2.1.toNat <;> cases f2 : S.testBit (nth xs i).2.2.toNat <;>
      simp [e0, e1, e2] at hc m0 m1 m2 <;> simp_all
    rw [maskB_bit hg] at hj
    rcases has_iff.1 hj with e | e | e
    · have : j = (nth xs i).1.toNat := by omega
      rw [this]; exact hall.1
    · have : j = (nth xs i).2.1.toNat := by omega
      rw [this]; exact hall.2.1
    · have : j = (nth xs i).2.2.toNat := by omega
      rw [this]; exact hall.2.2
  · have hbit : ∀ x : Int, 0 ≤ x → hasB (nth xs i) x = true → (maskB (nth xs i)).testBit x.toNat = true := fun x hx hh => by
      rw [maskB_bit hg, Int.toNat_of_nonneg hx]; exact hh
    cases e0 : s.testBit (nth xs i).1.toNat
    · exact or_up (hbit _ hb.1 (has_iff.2 (.inl rfl))) e0
    · cases e1 : s.testBit (nth xs i).2.1.toNat
      · exact or_up (hbit _ (by omega) (has_iff.2 (.inr (.inl rfl)))) e1
      · cases e2 : s.testBit (nth xs i).2.2.toNat
        · exact or_up (hbit _ (by omega) (has_iff.2 (.inr (.inr rfl)))) e2
        · rw [e0, e1, e2] at hc; simp at hc
theorem SI.third {xs : List Blk} {s0 s : Nat} (h : SI xs s0 s) {p q t : Nat} (hp : s.testBit p = true) (hq : s.testBit q = true) (hne : p ≠ q) (hp15 : p < 15) (hq15 : q < 15) (ht : third xs p q = (t : Int)) (ht15 : t < 15) : SI xs s0 (s ||| 2 ^ t) := by
  have h2 : 2 ^ t < 32768 := by have : 2 ^ t < 2 ^ 15 := Nat.pow_lt_pow_right (by omega) ht15; simpa using this
  refine h.orr h2 fun S hS hsub j hj => ?_
  rw [Nat.testBit_two_pow] at hj
  have : t = j := by simpa using hj
  subst this
  rcases hS p q hp15 hq15 hne (hsub p hp) (hsub q hq) with e | e
  · rw [ht] at e; omega
  · rw [ht] at e; simpa using e
theorem gridN_diag {p : Int} (hp : 0 ≤ p) (hp' : p < 15) (bs : List Blk) : ∀ k, (∀ j, j < k → goodB 15 (nth bs j) = true) → gridN bs k (p.toNat * 15 + p.toNat) = -1 := by
  intro k
  induction k with
  | zero => intro _; rfl
  | succ k ih =>
    intro hg
    have h := putG_cell (gridN bs k) (hg k (by omega)) (p := p) (q := p) hp hp hp' true
    rw [gridN, h]
    have : inB (nth bs k) p p = false := by unfold inB; simp
    rw [this]
    simpa using ih fun j hj => hg j (by omega)

end Go.Proofs.Ytgbkonnmjmlalaa

/- Contracts of the least closed set, of the reference and of the program, and of SpanOf and IsClosed; conditions: stated in each. -/
namespace Go.Proofs.Ytgbkonnmjmlalaa
open Go.RowKit
set_option maxHeartbeats 2000000
set_option maxRecDepth 100000
set_option linter.unusedSimpArgs false
set_option linter.unusedVariables false

def boolN : Value → Nat
  | .bool true => 1
  | _ => 0
theorem l07Span_any (v : Int) (A : Option Addr) (c : Nat) (xs : List Blk) (s : Nat) (w : World) (hA : Bl w A xs) (hl : xs.length ≤ 1048576) (hs : isSys v xs) (h15 : s < 32768) :
    Calls Try.prog 80 #[.agg #[.int .i64 v, .slice A xs.length c], .int .i64 (s : Int)] w fun e w' => e = .returned (.int .i64 (spanN xs s : Nat)) ∧ Below w.heap.size w w' := by
  have HCI : Hid (∀ m, (∀ i, i < xs.length → onesF 15 (maskB (nth xs i) &&& m) ≠ 2) → clS xs m) := fun m h => by
    rw [closed_iff hs m]
    exact fun i hi => by rw [← ones_cnt 15]; exact h i hi
  have HMK : Hid (∀ m i, SI xs s m → i < xs.length → onesF 15 (maskB (nth xs i) &&& m) = 2 → SI xs s (m ||| maskB (nth xs i)) ∧ m < m ||| maskB (nth xs i)) := fun m i h hi hc => SI.mask hs h hi (by rw [← ones_cnt 15]; exact hc)
  have HG : Hid (∀ i, i < xs.length → goodB 15 (nth xs i) = true) := fun i hi => good_mono (hs.2.2.1 i hi).1 hs.1.2
  have HR := Lib.hid (Row.new w 30 #[.int .i64 v, .slice A xs.length c])
  have HW := Lib.hid (below_alloc w (.cells #[.int .i64 v, .slice A xs.length c] 30))
  have HA := Lib.hid (hA.below HW.out)
  have hl35 := hs.2.1
  have HS0 : Hid (SI xs s s) := SI.start h15
  have HFI : Hid (∀ m, SI xs s m → clS xs m → spanN xs s = m) := fun m h hc => h.fin hc
  generalize spanN xs s = R at *
  clear hA hs
  go_enter Try.func80, Try.ntmps80
  go_wp2
  generalize w.alloc (.cells #[.int .i64 v, .slice A xs.length c] 30) = W at *
  go_loopw [1, 5] (fun q a wr => ∃ (m : Nat) (b : Bool), m < 32768 ∧ q = .int .i64 m ∧ a = .bool b ∧ Hid (Below W.heap.size W wr ∧ SI xs s m ∧ (b = false → clS xs m))) (fun q a _ => (32768 - (intOf q).toNat) * 2 + boolN a)
  case atStart => exact ⟨s, true, h15, rfl, rfl, Below.refl _ _, HS0.out, fun h => (by cases h)⟩
  case round =>
    obtain ⟨m, b, hm, rfl, rfl, HC⟩ := hrel
    cases b
    · have HCC := Lib.hid (And.intro (HFI.out m HC.out.2.1 (HC.out.2.2 rfl)) (below_up HW.out HC.out.1))
      clear HC
      go_wp2
      go_ret
      exact ⟨ret_int (by rw [HCC.out.1]), HCC.out.2⟩
    · have HC2 : Hid (Below W.heap.size W wr ∧ SI xs s m) := ⟨HC.out.1, HC.out.2.1⟩
      clear HC
      go_wp2
      obtain ⟨wo, rfl⟩ : ∃ wo : World, wo = wr := ⟨_, rfl⟩
      go_loopw [1, 5, 6] (fun q a i wr => ∃ (k m' : Nat) (b' : Bool), k ≤ xs.length ∧ m ≤ m' ∧ m' < 32768 ∧ q = .int .i64 m' ∧ a = .bool b' ∧ i = .int .i64 k ∧ Hid (Below W.heap.size W wr ∧ SI xs s m' ∧ (b' = true → m < m') ∧ (b' = false → ∀ j, j < k → onesF 15 (maskB (nth xs j) &&& m') ≠ 2))) (fun _ _ i _ => xs.length - (intOf i).toNat)
      case atStart => exact ⟨0, m, false, by omega, Nat.le_refl _, hm, rfl, rfl, rfl, HC2.out.1, HC2.out.2, fun h => (by cases h), fun _ j hj => (by omega)⟩
      case round =>
        obtain ⟨k, m', b', hk, hmm, hm', rfl, rfl, rfl, HD⟩ := hrel
        obtain ⟨c0, c1⟩ := (HR.out.below HD.out.1).c2
        have hlr := (HR.out.below HD.out.1).lt
        by_cases hlt : k < xs.length
        · obtain ⟨b1, o1, hA1, hb1, p0, p1, p2⟩ := (HA.out.below HD.out.1).at_ hlt
          subst hA1
          have hkl : (k : Int) < (xs.length : Int) := by omega
          have hg := HG.out k hlt
          have hml := maskB_lt hg
          go_wp2_with fail
          refine (l05Bits_any (nth xs k) _ hg).mono ?_
          rintro e w1 ⟨rfl, hb⟩
          have HB1 := Lib.hid (below_up HD.out.1 hb)
          clear hb hg p0 p1 p2 hb1 c0 c1
          obtain ⟨M, hM⟩ : ∃ M, maskB (nth xs k) = M := ⟨_, rfl⟩
          rw [hM] at hml ⊢
          have hm2 : M < 32768 := by simpa using hml
          have hand := bits_and_nat M m' (by omega) (by omega)
          have hor := bits_or_nat m' M (by omega) (by omega)
          have hlt2 : M &&& m' < 32768 := Nat.lt_of_le_of_lt Nat.and_le_left hm2
          have HM := Lib.hid hM
          clear hml hM
          go_wp2_with fail
          refine (l05Ones_any (M &&& m') _ hlt2).mono ?_
          obtain ⟨N, hN⟩ : ∃ N, onesF 15 (M &&& m') = N := ⟨_, rfl⟩
          rw [hN]
          rintro e w2 ⟨rfl, hb⟩
          have HB2 := Lib.hid (below_up HB1.out hb)
          have HNN := Lib.hid hN
          clear hb hN
          by_cases h2 : N = 2
          · subst h2
            have HUP := Lib.hid (HMK.out m' k HD.out.2.1 hlt (by rw [HM.out]; exact HNN.out))
            go_wp2
            go_roundw
            case rel =>
              have h := HUP.out
              rw [HM.out] at h
              exact ⟨k + 1, m' ||| M, true, by omega, by omega, h.1.2.1, rfl, rfl, by go_num, HB2.out, h.1, fun _ => (by omega), fun e => (by cases e)⟩
            case measure => simp [intOf]; omega
          · have h3 : ((N : Int) == 2) = false := by simp; omega
            have H2 := Lib.hid h2
            clear h2
            go_wp2
            go_roundw
            case rel =>
              refine ⟨k + 1, m', b', by omega, hmm, hm', rfl, rfl, by go_num, HB2.out, HD.out.2.1, HD.out.2.2.1, fun e i hi => ?_⟩
              by_cases e2 : i = k
              · subst e2; rw [HM.out, HNN.out]; exact H2.out
              · exact HD.out.2.2.2 e i (by omega)
            case measure => simp [intOf]; omega
        · obtain rfl : k = xs.length := by omega
          go_wp2
          go_roundw
          case rel => exact ⟨m', b', hm', rfl, rfl, HD.out.1, HD.out.2.1, fun e => HCI.out m' (HD.out.2.2.2 e)⟩
          case measure =>
            cases b'
            · simp [intOf, boolN]; omega
            · have := HD.out.2.2.1 rfl
              simp [intOf, boolN]; omega

theorem grid_cases {v : Int} {xs : List Blk} (hs : isSys v xs) {p q : Nat} (hp : p < 15) (hq : q < 15) : gridN xs xs.length (p * 15 + q) = -1 ∨ ∃ t : Nat, gridN xs xs.length (p * 15 + q) = (t : Int) ∧ t < 15 ∧ p ≠ q ∧ third xs p q = (t : Int) := by
  have hg : ∀ j, j < xs.length → goodB 15 (nth xs j) = true := fun j hj => good_mono (hs.2.2.1 j hj).1 hs.1.2
  by_cases e : p = q
  · subst e
    have h := gridN_diag (p := (p : Int)) (by omega) (by omega) xs xs.length hg
    simp only [Int.toNat_natCast] at h
    exact .inl h
  · have h := gridN_third hs (p := p) (q := q) (by omega) (by omega) (by omega) (by omega)
    simp only [Int.toNat_natCast] at h
    rw [h]
    rcases first_of (P := fun j => bothB (nth xs j) p q) xs.length with h2 | ⟨i, k1, k2, k3⟩
    · left; exact third_none p q xs h2
    · right
      rw [third_at p q xs i k1 k2 k3]
      have hin : inB (nth xs i) p q = true := by
        unfold bothB at k2; simp only [Bool.and_eq_true] at k2
        exact inB_iff.2 ⟨by omega, k2.1, k2.2⟩
      have h4 := in_third (hg i k1) hin
      exact ⟨(sumB (nth xs i) - p - q).toNat, by omega, by omega, e, by omega⟩
theorem nthI_mem {L : List Int} {i : Nat} (h : i < L.length) : nthI L i ∈ L := by
  unfold nthI
  rw [List.getD_eq_getElem?_getD, List.getElem?_eq_getElem h]
  exact List.getElem_mem h
theorem ptsN_at {m i : Nat} (h : i < (ptsN m 15).length) : ∃ p : Nat, nthI (ptsN m 15) i = (p : Int) ∧ p < 15 ∧ m.testBit p = true := (ptsN_mem m 15 _).1 (nthI_mem h)
theorem ptsN_idx {m p : Nat} (hp : p < 15) (h : m.testBit p = true) : ∃ i, i < (ptsN m 15).length ∧ nthI (ptsN m 15) i = (p : Int) := by
  obtain ⟨i, hi, e⟩ := List.getElem_of_mem ((ptsN_mem m 15 (p : Int)).2 ⟨p, rfl, hp, h⟩)
  refine ⟨i, hi, ?_⟩
  unfold nthI
  rw [List.getD_eq_getElem?_getD, List.getElem?_eq_getElem hi]
  simpa using e
/-- the pair (i, j) of the list L asks for nothing beyond m -/
def okP (xs : List Blk) (m : Nat) (L : List Int) (i j : Nat) : Prop := gridN xs xs.length ((nthI L i).toNat * 15 + (nthI L j).toNat) = -1 ∨ m.testBit (gridN xs xs.length ((nthI L i).toNat * 15 + (nthI L j).toNat)).toNat = true
theorem okP_cl {v : Int} {xs : List Blk} (hs : isSys v xs) {m : Nat} (h : ∀ i j, i < (ptsN m 15).length → j < (ptsN m 15).length → okP xs m (ptsN m 15) i j) : clS xs m := by
  intro p q hp hq hne h1 h2
  obtain ⟨i, hi, e1⟩ := ptsN_idx hp h1
  obtain ⟨j, hj, e2⟩ := ptsN_idx hq h2
  have h3 := h i j hi hj
  have hg := gridN_third hs (p := p) (q := q) (by omega) (by omega) (by omega) (by omega)
  unfold okP at h3
  rw [e1, e2] at h3
  rw [hg] at h3
  exact h3
/-- what the program's search of the least closed set holds before the pair (i, j) -/
def GSI (xs : List Blk) (s m : Nat) (i j m' : Nat) (b : Bool) : Prop := m ≤ m' ∧ (∀ k, m.testBit k = true → m'.testBit k = true) ∧ SI xs s m' ∧ (b = true → m < m') ∧ (b = false → m' = m ∧ ∀ i' j', i' < (ptsN m 15).length → j' < (ptsN m 15).length → (i' < i ∨ i' = i ∧ j' < j) → okP xs m (ptsN m 15) i' j')
theorem gsi_start {xs : List Blk} {s m : Nat} (h : SI xs s m) : GSI xs s m 0 0 m false := ⟨Nat.le_refl _, fun _ h => h, h, fun e => (by cases e), fun _ => ⟨rfl, fun i' j' _ _ h => (by omega)⟩⟩
theorem gsi_row {xs : List Blk} {s m i m' : Nat} {b : Bool} (h : GSI xs s m i (ptsN m 15).length m' b) : GSI xs s m (i + 1) 0 m' b := ⟨h.1, h.2.1, h.2.2.1, h.2.2.2.1, fun e => ⟨(h.2.2.2.2 e).1, fun i' j' h1 h2 h3 => (h.2.2.2.2 e).2 i' j' h1 h2 (by omega)⟩⟩
theorem gsi_keep {xs : List Blk} {s m i j m' : Nat} {b : Bool} (h : GSI xs s m i j m' b) (hok : m' = m → okP xs m (ptsN m 15) i j) : GSI xs s m i (j + 1) m' b := ⟨h.1, h.2.1, h.2.2.1, h.2.2.2.1, fun e => ⟨(h.2.2.2.2 e).1, fun i' j' h1 h2 h3 => by
  by_cases e2 : i' = i ∧ j' = j
  · rw [e2.1, e2.2]; exact hok (h.2.2.2.2 e).1
  · exact (h.2.2.2.2 e).2 i' j' h1 h2 (by omega)⟩⟩
theorem gsi_up {xs : List Blk} {s m i j m' p q t : Nat} {b : Bool} (h : GSI xs s m i j m' b) (hp : m.testBit p = true) (hq : m.testBit q = true) (hp15 : p < 15) (hq15 : q < 15) (hne : p ≠ q) (ht : third xs p q = (t : Int)) (ht15 : t < 15) (hb : m'.testBit t = false) : GSI xs s m i (j + 1) (m' ||| 2 ^ t) true := by
  have h1 := or_more hb
  have h2 := h.1
  refine ⟨by omega, fun k hk => ?_, h.2.2.1.third (h.2.1 p hp) (h.2.1 q hq) hne hp15 hq15 ht ht15, fun _ => by omega, fun e => (by cases e)⟩
  rw [Nat.testBit_or, h.2.1 k hk]; rfl

theorem gridSpan_any (v : Int) (xs : List Blk) (g s : Nat) (w : World) (hG : Gr w g (gridN xs xs.length)) (hs : isSys v xs) (h15 : s < 32768) :
    Calls Try.prog 84 #[.pointer (some ⟨g, 0, none⟩), .int .u64 (s : Int)] w fun e w' => e = .returned (.int .u64 (spanN xs s : Nat)) ∧ Below w.heap.size w w' := by
  have HG := Lib.hid hG
  have HS := Lib.hid hs
  have HS0 : Hid (SI xs s s) := SI.start h15
  have HFI : Hid (∀ m, SI xs s m → clS xs m → spanN xs s = m) := fun m h hc => h.fin hc
  have HCL : Hid (∀ m, (∀ i j, i < (ptsN m 15).length → j < (ptsN m 15).length → okP xs m (ptsN m 15) i j) → clS xs m) := fun m h => okP_cl hs h
  generalize spanN xs s = R at *
  clear hG hs
  go_enter Try.func84, Try.ntmps84
  go_wp2
  go_loopw [1, 5] (fun q a wr => ∃ (m : Nat) (b : Bool), m < 32768 ∧ q = .int .u64 m ∧ a = .bool b ∧ Hid (Below w.heap.size w wr ∧ SI xs s m ∧ (b = false → clS xs m))) (fun q a _ => (32768 - (intOf q).toNat) * 2 + boolN a)
  case atStart => exact ⟨s, true, h15, rfl, rfl, Below.refl _ _, HS0.out, fun h => (by cases h)⟩
  case round =>
    obtain ⟨m, b, hm, rfl, rfl, HC⟩ := hrel
    cases b
    · have HCC := Lib.hid (And.intro (HFI.out m HC.out.2.1 (HC.out.2.2 rfl)) HC.out.1)
      clear HC
      go_wp2
      go_ret
      exact ⟨ret_int (by rw [HCC.out.1]), HCC.out.2⟩
    · have HC2 : Hid (Below w.heap.size w wr ∧ SI xs s m) := ⟨HC.out.1, HC.out.2.1⟩
      clear HC
      go_wp2_with fail
      refine (setList_any m _ hm).mono ?_
      rintro e w1 ⟨u, rfl, hR, hb⟩
      obtain ⟨B, d, hun, hIL, _⟩ := hR.il
      subst hun
      have HIL := Lib.hid hIL
      have HB1 := Lib.hid (below_up HC2.out.1 hb)
      have HSI := Lib.hid HC2.out.2
      have hll := ptsN_len m 15
      have HPT : Hid (∀ i, i < (ptsN m 15).length → ∃ p : Nat, nthI (ptsN m 15) i = (p : Int) ∧ p < 15 ∧ m.testBit p = true) := fun i hi => ptsN_at hi
      have HCLm := Lib.hid (HCL.out m)
      have HGS0 := Lib.hid (gsi_start HSI.out)
      have HOKD : Hid (∀ i j, okP xs m (ptsN m 15) i j ↔ (gridN xs xs.length ((nthI (ptsN m 15) i).toNat * 15 + (nthI (ptsN m 15) j).toNat) = -1 ∨ m.testBit (gridN xs xs.length ((nthI (ptsN m 15) i).toNat * 15 + (nthI (ptsN m 15) j).toNat)).toNat = true)) := fun i j => Iff.rfl
      clear hR hb hIL HC2
      obtain ⟨n, hn⟩ : ∃ n, (ptsN m 15).length = n := ⟨_, rfl⟩
      have HN := Lib.hid hn
      rw [hn] at hll HPT HCLm ⊢
      clear hn
      go_wp2
      obtain ⟨wo, rfl⟩ : ∃ wo : World, wo = wr := ⟨_, rfl⟩
      go_loopw [1, 5, 17] (fun q a i wr => ∃ (k m' : Nat) (b' : Bool), k ≤ n ∧ m' < 32768 ∧ q = .int .u64 m' ∧ a = .bool b' ∧ i = .int .i64 k ∧ Hid (Below w1.heap.size w1 wr ∧ GSI xs s m k 0 m' b')) (fun _ _ i _ => n - (intOf i).toNat)
      case atStart => exact ⟨0, m, false, by omega, hm, rfl, rfl, rfl, Below.refl _ _, HGS0.out⟩
      case round =>
        obtain ⟨k, m1, b1, hk, hm1, rfl, rfl, rfl, HD⟩ := hrel
        by_cases hlt : k < n
        · obtain ⟨g1, o1, hA1, hg1, p0⟩ := (HIL.out.below HD.out.1).at_ (k := k) (by rw [HN.out]; exact hlt)
          subst hA1
          obtain ⟨p, hp, hp15, hpb⟩ := HPT.out k hlt
          rw [hp] at p0
          have HPK := Lib.hid (And.intro hp hpb)
          have hkn : (k : Int) < (n : Int) := by omega
          clear hp hpb
          go_wp2
          obtain ⟨wz, rfl⟩ : ∃ wz : World, wz = wr := ⟨_, rfl⟩
          go_loopw [1, 5, 23] (fun q a i wr => ∃ (j m' : Nat) (b' : Bool), j ≤ n ∧ m' < 32768 ∧ q = .int .u64 m' ∧ a = .bool b' ∧ i = .int .i64 j ∧ Hid (Below w1.heap.size w1 wr ∧ GSI xs s m k j m' b')) (fun _ _ i _ => n - (intOf i).toNat)
          case atStart => exact ⟨0, m1, b1, by omega, hm1, rfl, rfl, rfl, HD.out⟩
          case round =>
            obtain ⟨j, m2, b2, hj, hm2, rfl, rfl, rfl, HE⟩ := hrel
            by_cases hlt2 : j < n
            · obtain ⟨g2, o2, hA2, hg2, q0⟩ := (HIL.out.below HE.out.1).at_ (k := j) (by rw [HN.out]; exact hlt2)
              simp only [Option.some.injEq, Addr.mk.injEq] at hA2
              obtain ⟨rfl, rfl, -⟩ := hA2
              obtain ⟨q, hq, hq15, hqb⟩ := HPT.out j hlt2
              rw [hq] at q0
              have hjn : (j : Int) < (n : Int) := by omega
              have r0 := ((HG.out.below HB1.out).below HE.out.1).cell (i := p * 15 + q) (by omega)
              have hgl := ((HG.out.below HB1.out).below HE.out.1).lt
              have hok := HOKD.out k j
              rw [HPK.out.1, hq, Int.toNat_natCast, Int.toNat_natCast] at hok
              have HOK := Lib.hid hok
              have HQB := Lib.hid hqb
              clear hok hq hqb
              rcases grid_cases HS.out hp15 hq15 with hT | ⟨t, hT, ht15, hne, hth⟩
              · rw [hT] at r0 HOK
                have HOK2 := Lib.hid (HOK.out.2 (.inl rfl))
                clear hT HOK
                go_wp2
                go_roundw
                case rel => exact ⟨j + 1, m2, b2, by omega, hm2, rfl, rfl, by go_num, HE.out.1, gsi_keep HE.out.2 fun _ => HOK2.out⟩
                case measure => simp [intOf]; omega
              · rw [hT] at r0 HOK
                have HTH := Lib.hid (And.intro hne hth)
                have htn : ((t : Int) == -1) = false := by rw [beq_eq_false_iff_ne]; omega
                clear hT hne hth
                go_wp2_with fail
                refine (setHas_any m2 t _ hm2 ht15).mono ?_
                cases hbt : m2.testBit t
                · rintro e w' ⟨rfl, rfl⟩
                  have HUP := Lib.hid (gsi_up HE.out.2 HPK.out.2 HQB.out hp15 hq15 HTH.out.1 HTH.out.2 ht15 hbt)
                  have h2p : 2 ^ t < 32768 := by have : 2 ^ t < 2 ^ 15 := Nat.pow_lt_pow_right (by omega) ht15; simpa using this
                  have hor := bits_or_u m2 (2 ^ t) (by omega) (by omega)
                  have HW2 : Hid (bits .or .u64 (m2 : Int) (IntKind.u64.wrap ((2 : Int) ^ t)) = ((m2 ||| 2 ^ t : Nat) : Int)) := by
                    have e : IntKind.u64.wrap ((2 : Int) ^ t) = ((2 ^ t : Nat) : Int) := by have : ((2 : Int) ^ t) = ((2 ^ t : Nat) : Int) := by push_cast; rfl
                                                                                            rw [this]; exact wrap_u64_nat (2 ^ t) (by omega)
                    unfold Hid; rw [e]; exact hor
                  clear hbt hor h2p
                  go_wp2
                  go_roundw
                  case rel => exact ⟨j + 1, m2 ||| 2 ^ t, true, by omega, HUP.out.2.2.1.2.1, val_int HW2.out, rfl, by go_num, HE.out.1, HUP.out⟩
                  case measure => simp [intOf]; omega
                · rintro e w' ⟨rfl, rfl⟩
                  have HKP := Lib.hid (gsi_keep HE.out.2 fun em => HOK.out.2 (.inr (by rw [Int.toNat_natCast, ← em]; exact hbt)))
                  clear hbt
                  go_wp2
                  go_roundw
                  case rel => exact ⟨j + 1, m2, b2, by omega, hm2, rfl, rfl, by go_num, HE.out.1, HKP.out⟩
                  case measure => simp [intOf]; omega
            · obtain rfl : j = n := by omega
              have HRW := Lib.hid (And.intro HE.out.1 (gsi_row (by rw [HN.out]; exact HE.out.2)))
              go_wp2
              go_roundw
              case rel => exact ⟨k + 1, m2, b2, by omega, hm2, rfl, rfl, by go_num, HRW.out⟩
              case measure => simp [intOf]; omega
        · obtain rfl : k = n := by omega
          have HX := Lib.hid (And.intro (below_up HB1.out HD.out.1) HD.out.2)
          go_wp2
          go_roundw
          case rel => exact ⟨m1, b1, hm1, rfl, rfl, HX.out.1, HX.out.2.2.2.1, fun e => by
            have h := HX.out.2.2.2.2.2 e
            rw [h.1]
            exact HCL.out m fun i j hi hj => h.2 i j hi hj (by rw [HN.out] at hi; omega)⟩
          case measure =>
            cases b1
            · have := HX.out.2.1
              simp [intOf, boolN]; omega
            · have := HX.out.2.2.2.2.1 rfl
              simp [intOf, boolN]; omega

end Go.Proofs.Ytgbkonnmjmlalaa

/- Contracts of SpanOf and IsClosed, of the reference and of the program; conditions: stated in each. -/
namespace Go.Proofs.Ytgbkonnmjmlalaa
open Go.RowKit
set_option maxHeartbeats 2000000
set_option maxRecDepth 100000
set_option linter.unusedSimpArgs false
set_option linter.unusedVariables false

noncomputable def spanR (v : Int) (xs : List Blk) (ls : List Int) : List Int × Int := if spnCode v xs ls = 0 then (ptsN (spanN xs (bitsL ls ls.length)) 15, 0) else ([], spnCode v xs ls)
noncomputable def clsR (v : Int) (xs : List Blk) (ls : List Int) : Bool × Int := if spnCode v xs ls = 0 then (clB xs (bitsL ls ls.length), 0) else (false, spnCode v xs ls)
theorem spanR_bd (v : Int) (xs : List Blk) (ls : List Int) : (spanR v xs ls).1.length ≤ 15 := by
  unfold spanR
  split
  · exact ptsN_len _ _
  · simp
theorem spn_rng {v : Int} {xs : List Blk} {ls : List Int} (h : spnCode v xs ls = 0) : isSys v xs ∧ (∀ k, k < ls.length → 0 ≤ nthI ls k ∧ nthI ls k < 15) ∧ bitsL ls ls.length < 32768 := by
  obtain ⟨h1, h2⟩ := spnCode_zero h
  have hs := isSysB_iff.1 h1
  have hv := hs.1
  have hr : ∀ k, k < ls.length → 0 ≤ nthI ls k ∧ nthI ls k < 15 := fun k hk => by have := (risesB_iff.1 h2 k hk).1; omega
  refine ⟨hs, hr, ?_⟩
  have := bitsL_lt (ls := ls) (n := 15) (fun k hk => by have := hr k hk; omega) ls.length (Nat.le_refl _)
  simpa using this
/-- a least closed set there is -/
theorem span_ex {v : Int} {xs : List Blk} (hs : isSys v xs) {s : Nat} (h : s < 32768) : ∃ t, spanP xs s t := by
  have key : ∀ f m, 32768 - m ≤ f → SI xs s m → ∃ t, spanP xs s t := by
    intro f
    induction f with
    | zero => intro m hm h; have := h.2.1; omega
    | succ f ih =>
      intro m hm h
      by_cases hc : clS xs m
      · exact ⟨m, h.1, h.2.1, hc, h.2.2⟩
      · have hc2 : ¬ ∀ i, i < xs.length → cntF (fun j => (maskB (nth xs i) &&& m).testBit j) 15 ≠ 2 := fun h => hc ((closed_iff hs m).2 h)
        simp only [Classical.not_forall] at hc2
        obtain ⟨i, hi, h2⟩ := hc2
        have h3 := SI.mask hs h hi (by omega)
        exact ih _ (by have := h3.1.2.1; omega) h3.1
  exact key 32768 s (by omega) (SI.start h)
theorem span_some {v : Int} {xs : List Blk} (hs : isSys v xs) {s : Nat} (h : s < 32768) : spanN xs s < 32768 := by
  unfold spanN
  split
  · rename_i h2; exact (Classical.choose_spec h2).2.1
  · omega

theorem int_beq (a b : Nat) : ((a : Int) == (b : Int)) = (a == b) := by
  rw [Bool.eq_iff_iff, beq_iff_eq, beq_iff_eq]; omega
theorem span_is {v : Int} {xs : List Blk} (hs : isSys v xs) {s : Nat} (h : s < 32768) : (spanN xs s == s) = clB xs s := by
  have hex : ∃ t, spanP xs s t := span_ex hs h
  unfold spanN
  rw [dif_pos hex]
  exact span_self (Classical.choose_spec hex)

theorem specSpan_any (v : Int) (A : Option Addr) (c : Nat) (xs : List Blk) (B : Option Addr) (d : Nat) (ls : List Int) (w : World) (hA : Bl w A xs) (hl : xs.length ≤ 1048576) (hB : Il w B ls) (hlb : ls.length ≤ 1048576) :
    Calls Try.prog 43 #[.agg #[.int .i64 v, .slice A xs.length c], .slice B ls.length d] w (LP w (spanR v xs ls).1 (spanR v xs ls).2) := by
  have HB := Lib.hid hB; clear hB
  by_cases hc : spnCode v xs ls = 0
  · obtain ⟨hs, hr, h15⟩ := spn_rng hc
    have HS := Lib.hid hs; have HRG := Lib.hid hr; have H15 := Lib.hid h15
    have HN : Hid (spanR v xs ls = (ptsN (spanN xs (bitsL ls ls.length)) 15, 0)) := by unfold Hid spanR; rw [if_pos hc]
    generalize spanR v xs ls = R at *
    clear hs hr h15
    have HA := Lib.hid hA; clear hA; have HR := Lib.hid (Row.box w 30 (.int .i64 v) (.slice A xs.length c)); have HW := Lib.hid (Since.refl w); go_enter Try.func43, Try.ntmps43; go_wp2_with fail; replace HA := Lib.hid (HA.out.below (below_alloc _ (.cells #[.int .i64 v, .slice A xs.length c] 30))); replace HW := Lib.hid (HW.out.below (below_alloc _ (.cells #[.int .i64 v, .slice A xs.length c] 30))); replace HB := Lib.hid (HB.out.below (below_alloc _ (.cells #[.int .i64 v, .slice A xs.length c] 30)))
    refine (l01Set_any v A c xs B d ls _ HA.out hl HB.out hlb).mono ?_; rw [hc]; rintro e w_ ⟨rfl, hb⟩; replace HA := Lib.hid (HA.out.below hb); replace HB := Lib.hid (HB.out.below hb); replace HW := Lib.hid (HW.out.below hb); replace HR := Lib.hid (HR.out.below hb); clear hb; (try clear c0 c1); obtain ⟨c0, c1⟩ := HR.out.c2
    go_wp2
    have HKEEP := Lib.hid (And.intro c0 c1)
    have HBX : Hid (∀ W, Below w_.heap.size w_ W → (W.cell? ⟨w.heap.size, 0, none⟩ = some (.int .i64 v) ∧ W.cell? ⟨w.heap.size, 1, none⟩ = some (.slice A xs.length c))) := fun W hb => (HR.out.below hb).c2
    clear c0 c1
    go_region_held3 (fun w' => w'.cell? ⟨w.heap.size, 0, none⟩ = some (.int .i64 v) ∧ w'.cell? ⟨w.heap.size, 1, none⟩ = some (.slice A xs.length c)) (first | exact HKEEP.out | exact HBX.out _ (by (repeat' (first | (with_reducible exact Below.refl _ _) | (with_reducible assumption) | (with_reducible refine below_drewN ?_ _) | (with_reducible refine Below.drew ?_) | (with_reducible refine Below.alloc ?_ ?_ _) | (with_reducible refine Below.setCell ?_ ?_ _) | go_size)))) (first
      | (go_at_call 81
         refine (l07Bits_any B d ls _ (HB.out.below (by (repeat' (first | (with_reducible exact Below.refl _ _) | (with_reducible assumption) | (with_reducible refine below_drewN ?_ _) | (with_reducible refine Below.drew ?_) | (with_reducible refine Below.alloc ?_ ?_ _) | (with_reducible refine Below.setCell ?_ ?_ _) | go_size)))) hlb HRG.out).mono ?_
         rintro e w3 ⟨rfl, hb⟩
         have HB3 : Hid (Below w_.heap.size w_ w3) := below_up (by (repeat' (first | (with_reducible exact Below.refl _ _) | (with_reducible assumption) | (with_reducible refine below_drewN ?_ _) | (with_reducible refine Below.drew ?_) | (with_reducible refine Below.alloc ?_ ?_ _) | (with_reducible refine Below.setCell ?_ ?_ _) | go_size))) hb
         replace HKEEP := Lib.hid (HBX.out _ HB3.out)
         have hb3 := HB3.out
         have hz3 := HB3.out.size
         clear hb)
      | (go_at_call 80
         refine (l07Span_any v A c xs (bitsL ls ls.length) _ (HA.out.below HB3.out) hl HS.out H15.out).mono ?_
         rintro e w4 ⟨rfl, hb⟩
         have HB4 : Hid (Below w_.heap.size w_ w4) := below_up HB3.out hb
         replace HKEEP := Lib.hid (HBX.out _ HB4.out)
         have hb4 := HB4.out
         have hz4 := HB4.out.size
         clear hb)
      | (go_at_call 79
         refine (l07Points_any (spanN xs (bitsL ls ls.length)) _ (span_some HS.out H15.out)).mono ?_
         rintro e w5 ⟨u, rfl, hR5, hb⟩
         have HB5 : Hid (Below w_.heap.size w_ w5) := below_up HB4.out hb
         have HR5 := Lib.hid (own_base (base' := w.heap.size) hR5 (HW.out.below HB4.out).size)
         replace HKEEP := Lib.hid (HBX.out _ HB5.out)
         have hb5 := HB5.out
         have hz5 := HB5.out.size
         clear hb hR5))
    all_goals
      have HBW := Lib.hid (HW.out.below HB5.out)
      go_wp2
      go_ret2
      exact LP.mk HR5.out (by rw [HN.out]) (by rw [HN.out]) HBW.out
  · have hne : (spnCode v xs ls != 0) = true := by simpa using hc
    have HN : Hid (spanR v xs ls = ([], spnCode v xs ls)) := by unfold Hid spanR; rw [if_neg hc]
    generalize spanR v xs ls = R at *
    obtain ⟨K, hK⟩ : ∃ K, spnCode v xs ls = K := ⟨_, rfl⟩
    rw [hK] at hne HN
    clear hc
    have HA := Lib.hid hA; clear hA; have HR := Lib.hid (Row.box w 30 (.int .i64 v) (.slice A xs.length c)); have HW := Lib.hid (Since.refl w); go_enter Try.func43, Try.ntmps43; go_wp2_with fail; replace HA := Lib.hid (HA.out.below (below_alloc _ (.cells #[.int .i64 v, .slice A xs.length c] 30))); replace HW := Lib.hid (HW.out.below (below_alloc _ (.cells #[.int .i64 v, .slice A xs.length c] 30))); replace HB := Lib.hid (HB.out.below (below_alloc _ (.cells #[.int .i64 v, .slice A xs.length c] 30)))
    refine (l01Set_any v A c xs B d ls _ HA.out hl HB.out hlb).mono ?_; rw [hK]; rintro e w_ ⟨rfl, hb⟩; replace HW := Lib.hid (HW.out.below hb); clear hb
    go_wp2
    go_ret2
    exact LP.nil (by rw [HN.out]) (by rw [HN.out]) HW.out

theorem implSpan_any (v : Int) (A : Option Addr) (c : Nat) (xs : List Blk) (B : Option Addr) (d : Nat) (ls : List Int) (w : World) (hA : Bl w A xs) (hl : xs.length ≤ 1048576) (hB : Il w B ls) (hlb : ls.length ≤ 1048576) :
    Calls Try.prog 45 #[.agg #[.int .i64 v, .slice A xs.length c], .slice B ls.length d] w (LP w (spanR v xs ls).1 (spanR v xs ls).2) := by
  have HB := Lib.hid hB; clear hB
  by_cases hc : spnCode v xs ls = 0
  · obtain ⟨hs, hr, h15⟩ := spn_rng hc
    have HS := Lib.hid hs; have HRG := Lib.hid hr; have H15 := Lib.hid h15
    have HN : Hid (spanR v xs ls = (ptsN (spanN xs (bitsL ls ls.length)) 15, 0)) := by unfold Hid spanR; rw [if_pos hc]
    generalize spanR v xs ls = R at *
    clear hs hr h15
    have HA := Lib.hid hA; clear hA; have HR := Lib.hid (Row.box w 30 (.int .i64 v) (.slice A xs.length c)); have HW := Lib.hid (Since.refl w); go_enter Try.func45, Try.ntmps45; go_wp2_with fail; replace HA := Lib.hid (HA.out.below (below_alloc _ (.cells #[.int .i64 v, .slice A xs.length c] 30))); replace HW := Lib.hid (HW.out.below (below_alloc _ (.cells #[.int .i64 v, .slice A xs.length c] 30))); replace HB := Lib.hid (HB.out.below (below_alloc _ (.cells #[.int .i64 v, .slice A xs.length c] 30)))
    refine (implSetCode_any v A c xs B d ls _ HA.out hl HB.out hlb).mono ?_; rw [hc]; rintro e w_ ⟨rfl, hb⟩; replace HA := Lib.hid (HA.out.below hb); replace HB := Lib.hid (HB.out.below hb); replace HW := Lib.hid (HW.out.below hb); replace HR := Lib.hid (HR.out.below hb); clear hb; (try clear c0 c1); obtain ⟨c0, c1⟩ := HR.out.c2
    have hlr := HR.out.lt
    go_wp2_with fail
    refine (grid_any v A c xs _ HA.out hl HS.out).mono ?_
    rintro e w3 ⟨g, rfl, hle, hG, hb⟩
    have HG := Lib.hid hG
    have HB3 := Lib.hid hb
    clear hle hG hb
    go_wp2_with fail
    refine (setOf_any B d ls _ (HB.out.below HB3.out) hlb HRG.out).mono ?_
    rintro e w4 ⟨rfl, hb⟩
    have HB4 := Lib.hid hb
    clear hb
    go_wp2_with fail
    refine (gridSpan_any v xs g (bitsL ls ls.length) _ (HG.out.below HB4.out) HS.out H15.out).mono ?_
    rintro e w5 ⟨rfl, hb⟩
    have HB5 := Lib.hid (below_up (below_up HB3.out HB4.out) hb)
    clear hb
    go_wp2_with fail
    refine (setList_any (spanN xs (bitsL ls ls.length)) _ (span_some HS.out H15.out)).mono ?_
    rintro e w6 ⟨u, rfl, hR6, hb⟩
    have HBW := Lib.hid (HW.out.below (below_up HB5.out hb))
    have HR6 := Lib.hid (own_base (base' := w.heap.size) hR6 (HW.out.below HB5.out).size)
    clear hb hR6
    go_wp2
    go_ret2
    exact LP.mk HR6.out (by rw [HN.out]) (by rw [HN.out]) HBW.out
  · have hne : (spnCode v xs ls != 0) = true := by simpa using hc
    have HN : Hid (spanR v xs ls = ([], spnCode v xs ls)) := by unfold Hid spanR; rw [if_neg hc]
    generalize spanR v xs ls = R at *
    obtain ⟨K, hK⟩ : ∃ K, spnCode v xs ls = K := ⟨_, rfl⟩
    rw [hK] at hne HN
    clear hc
    have HA := Lib.hid hA; clear hA; have HR := Lib.hid (Row.box w 30 (.int .i64 v) (.slice A xs.length c)); have HW := Lib.hid (Since.refl w); go_enter Try.func45, Try.ntmps45; go_wp2_with fail; replace HA := Lib.hid (HA.out.below (below_alloc _ (.cells #[.int .i64 v, .slice A xs.length c] 30))); replace HW := Lib.hid (HW.out.below (below_alloc _ (.cells #[.int .i64 v, .slice A xs.length c] 30))); replace HB := Lib.hid (HB.out.below (below_alloc _ (.cells #[.int .i64 v, .slice A xs.length c] 30)))
    refine (implSetCode_any v A c xs B d ls _ HA.out hl HB.out hlb).mono ?_; rw [hK]; rintro e w_ ⟨rfl, hb⟩; replace HW := Lib.hid (HW.out.below hb); clear hb
    go_wp2
    go_ret2
    exact LP.nil (by rw [HN.out]) (by rw [HN.out]) HW.out

theorem specCls_any (v : Int) (A : Option Addr) (c : Nat) (xs : List Blk) (B : Option Addr) (d : Nat) (ls : List Int) (w : World) (hA : Bl w A xs) (hl : xs.length ≤ 1048576) (hB : Il w B ls) (hlb : ls.length ≤ 1048576) :
    Calls Try.prog 46 #[.agg #[.int .i64 v, .slice A xs.length c], .slice B ls.length d] w fun e w' => e = .returned (.tuple #[.bool (clsR v xs ls).1, .int .i64 (clsR v xs ls).2]) ∧ Below w.heap.size w w' := by
  have HB := Lib.hid hB; clear hB
  by_cases hc : spnCode v xs ls = 0
  · obtain ⟨hs, hr, h15⟩ := spn_rng hc
    have HS := Lib.hid hs; have HRG := Lib.hid hr; have H15 := Lib.hid h15
    have HN : Hid (clsR v xs ls = (clB xs (bitsL ls ls.length), 0)) := by unfold Hid clsR; rw [if_pos hc]
    generalize clsR v xs ls = R at *
    clear hs hr h15
    have HA := Lib.hid hA; clear hA; have HR := Lib.hid (Row.box w 30 (.int .i64 v) (.slice A xs.length c)); have HW := Lib.hid (Since.refl w); go_enter Try.func46, Try.ntmps46; go_wp2_with fail; replace HA := Lib.hid (HA.out.below (below_alloc _ (.cells #[.int .i64 v, .slice A xs.length c] 30))); replace HW := Lib.hid (HW.out.below (below_alloc _ (.cells #[.int .i64 v, .slice A xs.length c] 30))); replace HB := Lib.hid (HB.out.below (below_alloc _ (.cells #[.int .i64 v, .slice A xs.length c] 30)))
    refine (l01Set_any v A c xs B d ls _ HA.out hl HB.out hlb).mono ?_; rw [hc]; rintro e w_ ⟨rfl, hb⟩; replace HA := Lib.hid (HA.out.below hb); replace HB := Lib.hid (HB.out.below hb); replace HW := Lib.hid (HW.out.below hb); replace HR := Lib.hid (HR.out.below hb); clear hb; (try clear c0 c1); obtain ⟨c0, c1⟩ := HR.out.c2
    go_wp2
    have HKEEP := Lib.hid (And.intro c0 c1)
    have HBX : Hid (∀ W, Below w_.heap.size w_ W → (W.cell? ⟨w.heap.size, 0, none⟩ = some (.int .i64 v) ∧ W.cell? ⟨w.heap.size, 1, none⟩ = some (.slice A xs.length c))) := fun W hb => (HR.out.below hb).c2
    clear c0 c1
    go_region_held3 (fun w' => w'.cell? ⟨w.heap.size, 0, none⟩ = some (.int .i64 v) ∧ w'.cell? ⟨w.heap.size, 1, none⟩ = some (.slice A xs.length c)) (first | exact HKEEP.out | exact HBX.out _ (by (repeat' (first | (with_reducible exact Below.refl _ _) | (with_reducible assumption) | (with_reducible refine below_drewN ?_ _) | (with_reducible refine Below.drew ?_) | (with_reducible refine Below.alloc ?_ ?_ _) | (with_reducible refine Below.setCell ?_ ?_ _) | go_size)))) (first
      | (go_at_call 81
         refine (l07Bits_any B d ls _ (HB.out.below (by (repeat' (first | (with_reducible exact Below.refl _ _) | (with_reducible assumption) | (with_reducible refine below_drewN ?_ _) | (with_reducible refine Below.drew ?_) | (with_reducible refine Below.alloc ?_ ?_ _) | (with_reducible refine Below.setCell ?_ ?_ _) | go_size)))) hlb HRG.out).mono ?_
         rintro e w3 ⟨rfl, hb⟩
         have HB3 : Hid (Below w_.heap.size w_ w3) := below_up (by (repeat' (first | (with_reducible exact Below.refl _ _) | (with_reducible assumption) | (with_reducible refine below_drewN ?_ _) | (with_reducible refine Below.drew ?_) | (with_reducible refine Below.alloc ?_ ?_ _) | (with_reducible refine Below.setCell ?_ ?_ _) | go_size))) hb
         replace HKEEP := Lib.hid (HBX.out _ HB3.out)
         have hb3 := HB3.out
         have hz3 := HB3.out.size
         clear hb)
      | (go_at_call 87
         refine (l07Closed_any v A c xs (bitsL ls ls.length) _ (HA.out.below HB3.out) hl HS.out H15.out).mono ?_
         rintro e w5 ⟨rfl, hb⟩
         have HB5 : Hid (Below w_.heap.size w_ w5) := below_up HB3.out hb
         replace HKEEP := Lib.hid (HBX.out _ HB5.out)
         have hb5 := HB5.out
         have hz5 := HB5.out.size
         clear hb))
    all_goals
      have HBW := Lib.hid (HW.out.below HB5.out)
      go_wp2
      go_ret2
      exact ⟨by rw [HN.out]; rfl, HBW.out⟩
  · have hne : (spnCode v xs ls != 0) = true := by simpa using hc
    have HN : Hid (clsR v xs ls = (false, spnCode v xs ls)) := by unfold Hid clsR; rw [if_neg hc]
    generalize clsR v xs ls = R at *
    obtain ⟨K, hK⟩ : ∃ K, spnCode v xs ls = K := ⟨_, rfl⟩
    rw [hK] at hne HN
    clear hc
    have HA := Lib.hid hA; clear hA; have HR := Lib.hid (Row.box w 30 (.int .i64 v) (.slice A xs.length c)); have HW := Lib.hid (Since.refl w); go_enter Try.func46, Try.ntmps46; go_wp2_with fail; replace HA := Lib.hid (HA.out.below (below_alloc _ (.cells #[.int .i64 v, .slice A xs.length c] 30))); replace HW := Lib.hid (HW.out.below (below_alloc _ (.cells #[.int .i64 v, .slice A xs.length c] 30))); replace HB := Lib.hid (HB.out.below (below_alloc _ (.cells #[.int .i64 v, .slice A xs.length c] 30)))
    refine (l01Set_any v A c xs B d ls _ HA.out hl HB.out hlb).mono ?_; rw [hK]; rintro e w_ ⟨rfl, hb⟩; replace HW := Lib.hid (HW.out.below hb); clear hb
    go_wp2
    go_ret2
    exact ⟨by rw [HN.out]; rfl, HW.out⟩


theorem implCls_any (v : Int) (A : Option Addr) (c : Nat) (xs : List Blk) (B : Option Addr) (d : Nat) (ls : List Int) (w : World) (hA : Bl w A xs) (hl : xs.length ≤ 1048576) (hB : Il w B ls) (hlb : ls.length ≤ 1048576) :
    Calls Try.prog 47 #[.agg #[.int .i64 v, .slice A xs.length c], .slice B ls.length d] w fun e w' => e = .returned (.tuple #[.bool (clsR v xs ls).1, .int .i64 (clsR v xs ls).2]) ∧ Below w.heap.size w w' := by
  have HB := Lib.hid hB; clear hB
  by_cases hc : spnCode v xs ls = 0
  · obtain ⟨hs, hr, h15⟩ := spn_rng hc
    have HS := Lib.hid hs; have HRG := Lib.hid hr; have H15 := Lib.hid h15
    have HN : Hid (clsR v xs ls = (clB xs (bitsL ls ls.length), 0)) := by unfold Hid clsR; rw [if_pos hc]
    generalize clsR v xs ls = R at *
    clear hs hr h15
    have HA := Lib.hid hA; clear hA; have HR := Lib.hid (Row.box w 30 (.int .i64 v) (.slice A xs.length c)); have HW := Lib.hid (Since.refl w); go_enter Try.func47, Try.ntmps47; go_wp2_with fail; replace HA := Lib.hid (HA.out.below (below_alloc _ (.cells #[.int .i64 v, .slice A xs.length c] 30))); replace HW := Lib.hid (HW.out.below (below_alloc _ (.cells #[.int .i64 v, .slice A xs.length c] 30))); replace HB := Lib.hid (HB.out.below (below_alloc _ (.cells #[.int .i64 v, .slice A xs.length c] 30)))
    refine (implSetCode_any v A c xs B d ls _ HA.out hl HB.out hlb).mono ?_; rw [hc]; rintro e w_ ⟨rfl, hb⟩; replace HA := Lib.hid (HA.out.below hb); replace HB := Lib.hid (HB.out.below hb); replace HW := Lib.hid (HW.out.below hb); replace HR := Lib.hid (HR.out.below hb); clear hb; (try clear c0 c1); obtain ⟨c0, c1⟩ := HR.out.c2
    have hlr := HR.out.lt
    obtain ⟨c0, c1⟩ := HR.out.c2
    go_wp2_with fail
    refine (setOf_any B d ls _ HB.out hlb HRG.out).mono ?_
    rintro e w3 ⟨rfl, hb⟩
    have HB3 := Lib.hid hb
    obtain ⟨c0, c1⟩ := (HR.out.below HB3.out).c2
    have hlr3 := (HR.out.below HB3.out).lt
    clear hb
    go_wp2_with fail
    refine (grid_any v A c xs _ (HA.out.below HB3.out) hl HS.out).mono ?_
    rintro e w4 ⟨g, rfl, hle, hG, hb⟩
    have HG := Lib.hid hG
    have HB4 := Lib.hid (below_up HB3.out hb)
    clear hle hG hb
    go_wp2_with fail
    have HEQ : Hid ((spanN xs (bitsL ls ls.length) == bitsL ls ls.length) = clB xs (bitsL ls ls.length)) := span_is HS.out H15.out
    refine (gridSpan_any v xs g (bitsL ls ls.length) _ HG.out HS.out H15.out).mono ?_
    rintro e w5 ⟨rfl, hb⟩
    have HBW := Lib.hid (HW.out.below (below_up HB4.out hb))
    clear hb
    go_wp2
    go_ret2
    refine ⟨?_, HBW.out⟩
    have h : (((spanN xs (bitsL ls ls.length) : Nat) : Int) == ((bitsL ls ls.length : Nat) : Int)) = clB xs (bitsL ls ls.length) := by rw [int_beq]; exact HEQ.out
    rw [HN.out, ← h]
    rfl
  · have hne : (spnCode v xs ls != 0) = true := by simpa using hc
    have HN : Hid (clsR v xs ls = (false, spnCode v xs ls)) := by unfold Hid clsR; rw [if_neg hc]
    generalize clsR v xs ls = R at *
    obtain ⟨K, hK⟩ : ∃ K, spnCode v xs ls = K := ⟨_, rfl⟩
    rw [hK] at hne HN
    clear hc
    have HA := Lib.hid hA; clear hA; have HR := Lib.hid (Row.box w 30 (.int .i64 v) (.slice A xs.length c)); have HW := Lib.hid (Since.refl w); go_enter Try.func47, Try.ntmps47; go_wp2_with fail; replace HA := Lib.hid (HA.out.below (below_alloc _ (.cells #[.int .i64 v, .slice A xs.length c] 30))); replace HW := Lib.hid (HW.out.below (below_alloc _ (.cells #[.int .i64 v, .slice A xs.length c] 30))); replace HB := Lib.hid (HB.out.below (below_alloc _ (.cells #[.int .i64 v, .slice A xs.length c] 30)))
    refine (implSetCode_any v A c xs B d ls _ HA.out hl HB.out hlb).mono ?_; rw [hK]; rintro e w_ ⟨rfl, hb⟩; replace HW := Lib.hid (HW.out.below hb); clear hb
    go_wp2
    go_ret2
    exact ⟨by rw [HN.out]; rfl, HW.out⟩

end Go.Proofs.Ytgbkonnmjmlalaa
