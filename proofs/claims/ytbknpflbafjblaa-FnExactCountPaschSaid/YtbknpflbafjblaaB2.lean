/- Plain laws and contracts, part 2; conditions: stated in each. -/
import Derived.Deep.AppendLies
import Derived.Laws.OwnMore
import Derived.Deep.RegionHeld3
import Derived.Laws.Cover3
import Derived.ChangeKeysEq
import Derived.Test.YtbknpflbafjblaaB1
set_option linter.unusedSimpArgs false
set_option linter.unusedVariables false
/- Plain laws of the pairs that are left, and of the degrees of the leave. Conditions: none. -/
namespace Go.Proofs.Ytbknpflbafjblaa

/-- the pairs a < b < m that are left -/
def prs (G : Nat → Int) (a : Nat) : Nat → List (List Int)
  | 0 => []
  | m + 1 => prs G a m ++ (if a < m ∧ G (a * 15 + m) = -1 then [[(a : Int), (m : Int)]] else [])
def prA (G : Nat → Int) (v : Nat) : Nat → List (List Int)
  | 0 => []
  | k + 1 => prA G v k ++ prs G k v
theorem prs_nil (G : Nat → Int) (a : Nat) : ∀ m, m ≤ a + 1 → prs G a m = [] := by
  intro m
  induction m with
  | zero => intro _; rfl
  | succ m ih => intro h; rw [prs, ih (by omega), if_neg (by omega)]; rfl
theorem prs_len (G : Nat → Int) (a m : Nat) : (prs G a m).length ≤ m := by
  induction m with
  | zero => simp [prs]
  | succ m ih => simp only [prs]; split <;> simp <;> omega
theorem prA_len (G : Nat → Int) {v : Nat} (hv : v ≤ 15) (k : Nat) : (prA G v k).length ≤ 15 * k := by
  induction k with
  | zero => simp [prA]
  | succ k ih =>
    have := prs_len G k v
    simp only [prA, List.length_append]; omega
theorem prs_mem (G : Nat → Int) (a : Nat) : ∀ m, ∀ p ∈ prs G a m, ∃ b : Nat, p = [(a : Int), (b : Int)] ∧ a < b ∧ b < m := by
  intro m
  induction m with
  | zero => intro p hp; simp [prs] at hp
  | succ m ih =>
    intro p hp
    rw [prs, List.mem_append] at hp
    rcases hp with hp | hp
    · obtain ⟨b, h1, h2, h3⟩ := ih p hp; exact ⟨b, h1, h2, by omega⟩
    · split at hp
      · rename_i h
        simp only [List.mem_singleton] at hp
        exact ⟨m, hp, h.1, by omega⟩
      · simp at hp
theorem prA_mem (G : Nat → Int) (v : Nat) : ∀ k, ∀ p ∈ prA G v k, ∃ a b : Nat, p = [(a : Int), (b : Int)] ∧ a < b ∧ b < v := by
  intro k
  induction k with
  | zero => intro p hp; simp [prA] at hp
  | succ k ih =>
    intro p hp
    rw [prA, List.mem_append] at hp
    rcases hp with hp | hp
    · exact ih p hp
    · obtain ⟨b, h⟩ := prs_mem G k v p hp; exact ⟨k, b, h⟩

/-- how often a number is one of a pair's -/
def twoI (p : List Int) (i : Nat) : Nat := (if nthI p 0 = i then 1 else 0) + (if nthI p 1 = i then 1 else 0)
def cntL (i : Nat) : List (List Int) → Nat
  | [] => 0
  | p :: ps => twoI p i + cntL i ps
theorem cntL_app (i : Nat) (ps qs : List (List Int)) : cntL i (ps ++ qs) = cntL i ps + cntL i qs := by
  induction ps with
  | nil => simp [cntL]
  | cons p ps ih => simp only [List.cons_append, cntL, ih]; omega
theorem cntL_take {xss : List (List Int)} {k : Nat} (h : k < xss.length) (i : Nat) : cntL i (xss.take (k + 1)) = cntL i (xss.take k) + twoI (xss.getD k []) i := by
  rw [List.take_add_one, cntL_app]
  simp [h, cntL]
theorem cntL_le (i : Nat) (ps : List (List Int)) : cntL i ps ≤ 2 * ps.length := by
  induction ps with
  | nil => simp [cntL]
  | cons p ps ih =>
    have : twoI p i ≤ 2 := by unfold twoI; (repeat' split) <;> omega
    simp only [cntL, List.length_cons]; omega

theorem cntL_prs (G : Nat → Int) (a i : Nat) : ∀ m, cntL i (prs G a m) = (if a = i then cntF (fun b => decide (a < b) && (G (a * 15 + b) == -1)) m else 0) + (if a < i ∧ i < m ∧ G (a * 15 + i) = -1 then 1 else 0) := by
  intro m
  induction m with
  | zero => simp [prs, cntL, cntF]
  | succ m ih =>
    rw [prs, cntL_app, ih]
    simp only [cntF, Bool.and_eq_true, decide_eq_true_eq, beq_iff_eq]
    by_cases h : a < m ∧ G (a * 15 + m) = -1
    · rw [if_pos h, if_pos h]
      have e : cntL i [[(a : Int), (m : Int)]] = (if a = i then 1 else 0) + (if m = i then 1 else 0) := by
        simp [cntL, twoI, nthI, Int.natCast_inj]
      rw [e]
      by_cases h1 : a = i
      · subst h1
        rw [if_pos rfl, if_pos rfl, if_pos rfl, if_neg (by omega), if_neg (by omega), if_neg (by omega)]; (try omega)
      · rw [if_neg h1, if_neg h1, if_neg h1]
        by_cases h2 : m = i
        · subst h2; rw [if_pos rfl, if_neg (by omega), if_pos ⟨h.1, by omega, h.2⟩]
        · rw [if_neg h2]
          by_cases h3 : a < i ∧ i < m ∧ G (a * 15 + i) = -1
          · rw [if_pos h3, if_pos ⟨h3.1, by omega, h3.2.2⟩]
          · rw [if_neg h3, if_neg (fun h4 => h3 ⟨h4.1, by omega, h4.2.2⟩)]
    · rw [if_neg h, if_neg h]
      have hP : (a < i ∧ i < m ∧ G (a * 15 + i) = -1) ↔ (a < i ∧ i < m + 1 ∧ G (a * 15 + i) = -1) := by
        constructor
        · rintro ⟨h1, h2, h3⟩; exact ⟨h1, by omega, h3⟩
        · rintro ⟨h1, h2, h3⟩
          by_cases him : i = m
          · subst him; exact absurd ⟨h1, h3⟩ h
          · exact ⟨h1, by omega, h3⟩
      simp only [hP, cntL, Nat.add_zero]
theorem cntL_prA (G : Nat → Int) {v i : Nat} (hi : i < v) : ∀ k, k ≤ v → cntL i (prA G v k) = (if i < k then cntF (fun b => decide (i < b) && (G (i * 15 + b) == -1)) v else 0) + cntF (fun a => decide (a < i) && (G (a * 15 + i) == -1)) k := by
  intro k
  induction k with
  | zero => intro _; simp [prA, cntL, cntF]
  | succ k ih =>
    intro hk
    rw [prA, cntL_app, ih (by omega), cntL_prs]
    simp only [cntF, Bool.and_eq_true, decide_eq_true_eq, beq_iff_eq]
    by_cases h1 : k = i
    · subst h1
      have a1 : ¬ (k < k ∧ k < v ∧ G (k * 15 + k) = -1) := fun h => by omega
      have a2 : k < k + 1 := by omega
      have a3 : ¬ (k < k ∧ G (k * 15 + k) = -1) := fun h => by omega
      rw [if_neg (Nat.lt_irrefl k), if_pos rfl, if_neg a1, if_pos a2, if_neg a3]; (try omega)
    · rw [if_neg h1]
      by_cases h2 : i < k
      · have a1 : ¬ (k < i ∧ i < v ∧ G (k * 15 + i) = -1) := fun h => by omega
        have a2 : i < k + 1 := by omega
        have a3 : ¬ (k < i ∧ G (k * 15 + i) = -1) := fun h => by omega
        rw [if_pos h2, if_pos a2, if_neg a1, if_neg a3]; (try omega)
      · have a2 : ¬ i < k + 1 := by omega
        rw [if_neg h2, if_neg a2]
        by_cases h3 : k < i ∧ G (k * 15 + i) = -1
        · rw [if_pos h3, if_pos ⟨h3.1, hi, h3.2⟩]; (try omega)
        · rw [if_neg h3, if_neg (fun h4 => h3 ⟨h4.1, h4.2.2⟩)]; (try omega)

theorem cntF_congr {f g : Nat → Bool} (n : Nat) (h : ∀ j, j < n → f j = g j) : cntF f n = cntF g n := by
  induction n with
  | zero => rfl
  | succ n ih => simp only [cntF, ih (fun j hj => h j (by omega)), h n (by omega)]
theorem cntF_eq (i n : Nat) (h : i < n) : cntF (fun q => decide (q = i)) n = 1 := by
  have key : ∀ n, cntF (fun q => decide (q = i)) n = if i < n then 1 else 0 := by
    intro n
    induction n with
    | zero => rfl
    | succ n ih =>
      simp only [cntF, ih, decide_eq_true_eq]
      (repeat' split) <;> omega
  rw [key, if_pos h]

/-- the blocks with a point -/
def atP (i : Int) (b : Blk) : Bool := hasB b i
theorem cntF_in {v : Int} {b : Blk} (hg : goodB v b = true) {i : Nat} (hi : (i : Int) < v) : cntF (fun q => inB b i q) v.toNat = if hasB b i = true then 2 else 0 := by
  have hb := good_bd hg
  have h3 := cntF_has hg v.toNat
  rw [if_pos (by omega), if_pos (by omega), if_pos (by omega)] at h3
  by_cases h : hasB b i = true
  · rw [if_pos h]
    have := cntF_or (f := fun q => decide (q = i)) (g := fun q => inB b i q) (h := fun q => hasB b q) v.toNat (fun j _ => by
      by_cases hji : j = i
      · subst hji; simp [h, inB]
      · have : (i : Int) ≠ (j : Int) := by omega
        simp [hji, inB, this, h])
    rw [cntF_eq i _ (by omega)] at this
    omega
  · rw [if_neg h]
    have : ∀ n, cntF (fun q => inB b i q) n = 0 := by
      intro n
      induction n with
      | zero => rfl
      | succ n ih => simp only [cntF, ih]; simp [inB, h]
    exact this _

/-- a pair is in one of the first k blocks -/
def covK (xs : List Blk) (i : Nat) : Nat → Nat → Bool
  | 0, _ => false
  | k + 1, q => covK xs i k q || inB (nth xs k) i q
theorem covK_iff (xs : List Blk) (i : Nat) (q : Nat) : ∀ k, covK xs i k q = true ↔ ∃ j, j < k ∧ inB (nth xs j) i q = true := by
  intro k
  induction k with
  | zero => simp [covK]
  | succ k ih =>
    rw [covK, Bool.or_eq_true, ih]
    constructor
    · rintro (⟨j, h1, h2⟩ | h)
      · exact ⟨j, by omega, h2⟩
      · exact ⟨k, by omega, h⟩
    · rintro ⟨j, h1, h2⟩
      by_cases hjk : j = k
      · subst hjk; exact .inr h2
      · exact .inl ⟨j, by omega, h2⟩
theorem cov_cnt {v : Int} {xs : List Blk} (hs : isSys v xs) {i : Nat} (hi : (i : Int) < v) : ∀ k, k ≤ xs.length → cntF (covK xs i k) v.toNat = 2 * (numsN (atP i) xs k).length := by
  intro k
  induction k with
  | zero =>
    intro _
    have : ∀ n, cntF (covK xs i 0) n = 0 := by intro n; induction n with
      | zero => rfl
      | succ n ih => simp only [cntF, ih]; rfl
    rw [this]; rfl
  | succ k ih =>
    intro hk
    rw [cntF_or (f := covK xs i k) (g := fun q => inB (nth xs k) i q) v.toNat, ih (by omega), cntF_in (hs.2.2.1 k (by omega)).1 hi, numsN, List.length_append]
    · have e : atP i (nth xs k) = hasB (nth xs k) i := rfl
      rw [e]
      cases hasB (nth xs k) i <;> simp <;> (try omega)
    · intro q _
      refine ⟨rfl, ?_⟩
      rw [← Bool.not_eq_true, Bool.and_eq_true, covK_iff]
      rintro ⟨⟨j, h1, h2⟩, h3⟩
      have hne := (inB_iff.1 h2).1
      have := com_two (hs.2.2.1 k (by omega)).1 (hs.2.2.1 j (by omega)).1 hne (by unfold bothB; have := inB_iff.1 h3; simp [this.2.1, this.2.2]) (by unfold bothB; have := inB_iff.1 h2; simp [this.2.1, this.2.2])
      have := hs.2.2.2 k (by omega) j h1
      omega

/-- the degree of a point in the leave -/
theorem leave_deg {v : Nat} {xs : List Blk} (hs : isSys v xs) {i : Nat} (hi : i < v) : (cntL i (prA (gridN xs xs.length) v v) : Int) = (v : Int) - 1 - 2 * ((nums (atP i) xs).length : Int) := by
  have hv := hs.1
  have hg : ∀ j, j < xs.length → goodB 15 (nth xs j) = true := fun j hj => good_mono (hs.2.2.1 j hj).1 hs.1.2
  have hfree : ∀ p q : Nat, q < v → p < v → ((gridN xs xs.length (p * 15 + q) == -1) = !covK xs p xs.length q) := by
    intro p q hq hp
    have h := gridN_free xs (p := p) (q := q) (by omega) (by omega) (by omega) xs.length hg
    simp only [Int.toNat_natCast] at h
    cases hc : covK xs p xs.length q
    · rw [Bool.not_false, beq_iff_eq, h]
      intro j hj
      rw [← Bool.not_eq_true]
      intro h2
      rw [(covK_iff xs p q xs.length).2 ⟨j, hj, h2⟩] at hc; cases hc
    · rw [Bool.not_true, beq_eq_false_iff_ne, ne_eq, h]
      intro h2
      obtain ⟨j, hj, h3⟩ := (covK_iff xs p q xs.length).1 hc
      rw [h2 j hj] at h3; cases h3
  have hsym : ∀ p q : Nat, covK xs p xs.length q = covK xs q xs.length p := by
    intro p q
    rw [Bool.eq_iff_iff, covK_iff, covK_iff]
    constructor <;> rintro ⟨j, h1, h2⟩ <;> obtain ⟨a, b, c⟩ := inB_iff.1 h2 <;> exact ⟨j, h1, inB_iff.2 ⟨Ne.symm a, c, b⟩⟩
  have hself : covK xs i xs.length i = false := by
    rw [← Bool.not_eq_true, covK_iff]; rintro ⟨j, _, h2⟩; exact (inB_iff.1 h2).1 rfl
  rw [cntL_prA _ hi v (Nat.le_refl _), if_pos hi]
  have h1 := cov_cnt hs (i := i) (by omega) xs.length (Nat.le_refl _)
  rw [Int.toNat_natCast] at h1
  have e1 : cntF (fun b => decide (i < b) && (gridN xs xs.length (i * 15 + b) == -1)) v = cntF (fun q => decide (i < q) && !covK xs i xs.length q) v :=
    cntF_congr v fun q hq => by rw [hfree i q hq hi]
  have e2 : cntF (fun a => decide (a < i) && (gridN xs xs.length (a * 15 + i) == -1)) v = cntF (fun q => decide (q < i) && !covK xs i xs.length q) v :=
    cntF_congr v fun q hq => by rw [hfree q i hi hq, hsym]
  have e3 := cntF_or (f := fun q => decide (i < q) && !covK xs i xs.length q) (g := fun q => decide (q < i) && !covK xs i xs.length q) (h := fun q => !decide (q = i) && !covK xs i xs.length q) v (fun q _ => by
    rcases Nat.lt_trichotomy q i with h | h | h
    · have a1 : ¬ i < q := by omega
      have a2 : ¬ q = i := by omega
      simp [h, a1, a2]
    · subst h; simp
    · have a1 : ¬ q < i := by omega
      have a2 : ¬ q = i := by omega
      simp [h, a1, a2])
  have e4 := cntF_or (f := fun q => !decide (q = i) && !covK xs i xs.length q) (g := fun q => decide (q = i)) (h := fun q => !covK xs i xs.length q) v (fun q _ => by
    by_cases h : q = i
    · subst h; simp [hself]
    · simp [h])
  have e5 := cntF_or (f := fun q => !covK xs i xs.length q) (g := covK xs i xs.length) (h := fun _ => true) v (fun q _ => by cases covK xs i xs.length q <;> simp)
  have e6 : cntF (fun _ => true) v = v := (cntF_all v).2 fun _ _ => rfl
  rw [cntF_eq i v hi] at e4
  rw [e1, e2]
  have : (numsN (atP i) xs xs.length).length = (nums (atP i) xs).length := rfl
  omega

end Go.Proofs.Ytbknpflbafjblaa

/- Contracts for LeaveDegrees, of the reference and of the program; conditions: stated in each. -/
namespace Go.Proofs.Ytbknpflbafjblaa
open Go.RowKit
set_option maxHeartbeats 400000
set_option maxRecDepth 100000
set_option linter.unusedSimpArgs false
set_option linter.unusedVariables false

theorem infoList : (Try.prog.info? 42).map (fun i => (i.zero, i.size, i.bytes)) = some (some (.slice none 0 0), 1, 24) := by kernel_rfl
/-- the leave's degrees of the first k points -/
def leL (xs : List Blk) (n : Nat) (k : Nat) : List Int := (List.range k).map fun i : Nat => (n : Int) - 1 - 2 * ((nums (atP (i : Int)) xs).length : Int)
theorem leL_len (xs : List Blk) (n k : Nat) : (leL xs n k).length = k := by simp [leL]
theorem leL_succ (xs : List Blk) (n k : Nat) : leL xs n (k + 1) = leL xs n k ++ [(n : Int) - 1 - 2 * ((nums (atP (k : Int)) xs).length : Int)] := by simp [leL, List.range_succ]
noncomputable def leaveR (v : Int) (xs : List Blk) : List Int × Int := if isSysB v xs = true then (leL xs v.toNat v.toNat, 0) else ([], 1)
theorem leaveR_bd (v : Int) (xs : List Blk) : (leaveR v xs).1.length ≤ 15 := by
  unfold leaveR; split
  · rename_i h; have := (isSysB_iff.1 h).1; rw [leL_len]; omega
  · simp

end Go.Proofs.Ytbknpflbafjblaa

/- Contracts for BlocksAt, of the reference and of the program; conditions: stated in each. -/
namespace Go.Proofs.Ytbknpflbafjblaa
open Go.RowKit
set_option maxHeartbeats 400000
set_option maxRecDepth 100000
set_option linter.unusedSimpArgs false
set_option linter.unusedVariables false

/-- the code of a system and of points -/
noncomputable def ptCode (v : Int) (xs : List Blk) (ls : List Int) : Int := if isSysB v xs = true then (if allInB ls (v - 1) = true then 0 else 2) else 1
theorem l01Points_any (v : Int) (A : Option Addr) (c : Nat) (xs : List Blk) (B : Option Addr) (d : Nat) (ls : List Int) (w : World) (hA : Bl w A xs) (hl : xs.length ≤ 1048576) (hB : Il w B ls) (hlb : ls.length ≤ 1048576) :
    Calls Try.prog 115 #[.agg #[.int .i64 v, .slice A xs.length c], .slice B ls.length d] w fun e w' => e = .returned (.int .i64 (ptCode v xs ls)) ∧ Below w.heap.size w w' := by
  have HB := Lib.hid hB; clear hB
  cases hs : isSysB v xs
  · have HA := Lib.hid hA; clear hA; have HR := Lib.hid (Row.box w 30 (.int .i64 v) (.slice A xs.length c)); have HW := Lib.hid (Since.refl w); go_enter Try.func115, Try.ntmps115; go_wp2_with fail; replace HA := Lib.hid (HA.out.below (below_alloc _ (.cells #[.int .i64 v, .slice A xs.length c] 30))); replace HW := Lib.hid (HW.out.below (below_alloc _ (.cells #[.int .i64 v, .slice A xs.length c] 30)))
    refine (l01Is_any v A c xs _ HA.out hl).mono ?_; rw [hs]; rintro e w_ ⟨rfl, hb⟩; replace HW := Lib.hid (HW.out.below hb); clear hb
    go_wp2
    go_ret
    exact ⟨ret_int (by simp [ptCode, hs]), HW.out⟩
  · have hv := (isSysB_iff.1 hs).1
    have HE : Hid (ptCode v xs ls = if allInB ls (v - 1) = true then 0 else 2) := by unfold Hid ptCode; rw [if_pos hs]
    have HA := Lib.hid hA; clear hA; have HR := Lib.hid (Row.box w 30 (.int .i64 v) (.slice A xs.length c)); have HW := Lib.hid (Since.refl w); go_enter Try.func115, Try.ntmps115; go_wp2_with fail; replace HA := Lib.hid (HA.out.below (below_alloc _ (.cells #[.int .i64 v, .slice A xs.length c] 30))); replace HW := Lib.hid (HW.out.below (below_alloc _ (.cells #[.int .i64 v, .slice A xs.length c] 30))); replace HB := Lib.hid (HB.out.below (below_alloc _ (.cells #[.int .i64 v, .slice A xs.length c] 30)))
    refine (l01Is_any v A c xs _ HA.out hl).mono ?_; rw [hs]; rintro e w_ ⟨rfl, hb⟩; replace HA := Lib.hid (HA.out.below hb); replace HB := Lib.hid (HB.out.below hb); replace HW := Lib.hid (HW.out.below hb); replace HR := Lib.hid (HR.out.below hb); clear hb; (try clear c0 c1); obtain ⟨c0, c1⟩ := HR.out.c2
    go_wp2
    clear c0 c1
    go_loopw [5] (fun i wr => ∃ k : Nat, k ≤ ls.length ∧ i = .int .i64 k ∧ Below w_.heap.size w_ wr ∧ Hid (∀ j, j < k → 0 ≤ nthI ls j ∧ nthI ls j ≤ v - 1)) (fun i _ => ls.length - (intOf i).toNat)
    case atStart => exact ⟨0, by omega, rfl, Below.refl _ _, fun i hi => by omega⟩
    case round =>
      obtain ⟨k, hk, rfl, hb, HC⟩ := hrel
      obtain ⟨c0, c1⟩ := (HR.out.below hb).c2
      by_cases hlt : k < ls.length
      · obtain ⟨b1, o1, hA1, hb1, p0⟩ := (HB.out.below hb).at_ hlt
        subst hA1
        have hwr : IntKind.i64.wrap (v - 1) = v - 1 := by go_arith
        by_cases hin : 0 ≤ nthI ls k ∧ nthI ls k ≤ v - 1
        · have HIN := Lib.hid hin
          have HD : Hid (decide (0 ≤ nthI ls k ∧ nthI ls k ≤ IntKind.i64.wrap (v - 1)) = true) := by unfold Hid; rw [hwr]; exact decide_eq_true hin
          clear hin hwr
          go_wp2
          have HKEEP := Lib.hid (And.intro c0 (And.intro c1 p0))
          clear c0 c1 p0
          go_region_held3 (fun w' => w'.cell? ⟨w.heap.size, 0, none⟩ = some (.int .i64 v) ∧ w'.cell? ⟨w.heap.size, 1, none⟩ = some (.slice A xs.length c) ∧ w'.cell? ⟨b1, o1 + k, none⟩ = some (.int .i64 (nthI ls k))) (first | exact HKEEP.out) (first
            | (go_at_call 86; refine (l01In_any _ _ _ _).mono ?_; rw [HD.out]; rintro e w' ⟨rfl, rfl⟩))
          go_wp2
          go_roundw
          case rel =>
            refine ⟨k + 1, by omega, by go_num, below_up hb (below_drew _), fun j hj => ?_⟩
            by_cases hjk : j < k
            · exact HC.out j hjk
            · obtain rfl : j = k := by omega
              exact HIN.out
          case measure => simp [intOf]; omega
        · have HD : Hid (decide (0 ≤ nthI ls k ∧ nthI ls k ≤ IntKind.i64.wrap (v - 1)) = false) := by unfold Hid; rw [hwr]; exact decide_eq_false hin
          have HIN := Lib.hid hin
          clear hin hwr
          go_wp2
          have HKEEP := Lib.hid (And.intro c0 (And.intro c1 p0))
          clear c0 c1 p0
          go_region_held3 (fun w' => w'.cell? ⟨w.heap.size, 0, none⟩ = some (.int .i64 v) ∧ w'.cell? ⟨w.heap.size, 1, none⟩ = some (.slice A xs.length c) ∧ w'.cell? ⟨b1, o1 + k, none⟩ = some (.int .i64 (nthI ls k))) (first | exact HKEEP.out) (first
            | (go_at_call 86; refine (l01In_any _ _ _ _).mono ?_; rw [HD.out]; rintro e w' ⟨rfl, rfl⟩))
          go_wp2
          go_ret
          refine ⟨ret_int ?_, HW.out.below (below_up hb (below_drew _))⟩
          rw [HE.out, allInB_false fun h => HIN.out (h k hlt)]; rfl
      · obtain rfl : k = ls.length := by omega
        go_wp2
        go_ret
        refine ⟨ret_int ?_, HW.out.below hb⟩
        rw [HE.out, allInB_true HC.out]; rfl

noncomputable def atR (v : Int) (xs : List Blk) (p : Int) : List Int × Int := if isSysB v xs = true then (if 0 ≤ p ∧ p ≤ v - 1 then (nums (atP p) xs, 0) else ([], 2)) else ([], 1)
theorem atR_bd (v : Int) (xs : List Blk) (p : Int) : (atR v xs p).1.length ≤ xs.length := by
  unfold atR; (repeat' split)
  · exact numsN_len _ _ _
  · simp
  · simp
theorem allInB_one (p m : Int) : allInB [p] m = decide (0 ≤ p ∧ p ≤ m) := by
  rw [Bool.eq_iff_iff, allInB_iff]
  unfold allIn
  simp only [decide_eq_true_eq]
  constructor
  · intro h; exact h 0 (by simp)
  · intro h k hk
    obtain rfl : k = 0 := by simpa using hk
    exact h

end Go.Proofs.Ytbknpflbafjblaa

/- Contracts of the codes of elements and of products; conditions: stated in each. -/
namespace Go.Proofs.Ytbknpflbafjblaa
open Go.RowKit
set_option maxHeartbeats 400000
set_option maxRecDepth 100000
set_option linter.unusedSimpArgs false
set_option linter.unusedVariables false

/-- not from 0 to m -/
def outP (m : Int) (a : Int) : Bool := !decide (0 ≤ a ∧ a ≤ m)
theorem anyP_out (ls : List Int) (m : Int) : anyP (outP m) ls = !allInB ls m := by
  by_cases h : allIn ls m
  · rw [allInB_true h, anyP_false]
    · rfl
    · intro k hk; have := h k hk; simp [outP, this]
  · rw [allInB_false h]
    unfold allIn at h
    simp only [Classical.not_forall] at h
    obtain ⟨k, hk, hn⟩ := h
    rw [anyP_true hk (by simp only [outP, decide_eq_false hn]; rfl)]; rfl

/-- the product that a grid tells -/
def prodG (G : Nat → Int) (a b : Int) : Int := if a = b then a else G (a.toNat * 15 + b.toNat)
end Go.Proofs.Ytbknpflbafjblaa

/- Plain laws of tables of products, of sums, and of full systems. Conditions: none. -/
namespace Go.Proofs.Ytbknpflbafjblaa

def sumN (f : Nat → Nat) : Nat → Nat
  | 0 => 0
  | k + 1 => sumN f k + f k
theorem sumN_le {f : Nat → Nat} {B : Nat} : ∀ n, (∀ i, i < n → f i ≤ B) → sumN f n ≤ n * B := by
  intro n
  induction n with
  | zero => intro _; simp [sumN]
  | succ n ih =>
    intro h
    have h1 := ih (fun i hi => h i (by omega)); have h2 := h n (by omega)
    rw [sumN, Nat.succ_mul]; omega
theorem sumN_full {f : Nat → Nat} {B : Nat} : ∀ n, (∀ i, i < n → f i ≤ B) → (sumN f n = n * B ↔ ∀ i, i < n → f i = B) := by
  intro n
  induction n with
  | zero => intro _; simp [sumN]
  | succ n ih =>
    intro h
    have h0 := sumN_le n (fun i hi => h i (by omega) : ∀ i, i < n → f i ≤ B)
    have h1 := ih (fun i hi => h i (by omega)); have h2 := h n (by omega)
    rw [sumN, Nat.succ_mul]
    constructor
    · intro e i hi
      have h3 : f n = B := by omega
      by_cases hin : i = n
      · subst hin; exact h3
      · exact h1.1 (by omega) i (by omega)
    · intro e
      rw [h1.2 (fun i hi => e i (by omega)), e n (by omega)]
theorem sumN_congr {f g : Nat → Nat} : ∀ n, (∀ i, i < n → f i = g i) → sumN f n = sumN g n := by
  intro n
  induction n with
  | zero => intro _; rfl
  | succ n ih => intro h; rw [sumN, sumN, ih (fun i hi => h i (by omega)), h n (by omega)]
theorem sumN_add (f g : Nat → Nat) : ∀ n, sumN (fun i => f i + g i) n = sumN f n + sumN g n := by
  intro n
  induction n with
  | zero => rfl
  | succ n ih => rw [sumN, sumN, sumN, ih]; omega
theorem sumN_cnt (p : Nat → Bool) : ∀ n, sumN (fun i => if p i = true then 1 else 0) n = cntF p n := by
  intro n
  induction n with
  | zero => rfl
  | succ n ih => rw [sumN, cntF, ih]
theorem sumN_const (c : Nat) : ∀ n, sumN (fun _ => c) n = n * c := by
  intro n
  induction n with
  | zero => simp [sumN]
  | succ n ih => rw [sumN, ih, Nat.succ_mul]

/-- how many triples of n elements are such -/
def cntT (n : Nat) (p : Nat → Nat → Nat → Bool) : Nat := sumN (fun a => sumN (fun b => sumN (fun c => if p a b c = true then 1 else 0) n) n) n
theorem cntT_congr {n : Nat} {p q : Nat → Nat → Nat → Bool} (h : ∀ a b c, a < n → b < n → c < n → p a b c = q a b c) : cntT n p = cntT n q :=
  sumN_congr n fun a ha => sumN_congr n fun b hb => sumN_congr n fun c hc => by rw [h a b c ha hb hc]
theorem cntT_all {n : Nat} {p : Nat → Nat → Nat → Bool} : cntT n p = n * (n * n) ↔ ∀ a, a < n → ∀ b, b < n → ∀ c, c < n → p a b c = true := by
  have h1 : ∀ a b c, (if p a b c = true then 1 else 0) ≤ 1 := by intro a b c; split <;> omega
  have h2 : ∀ a b, sumN (fun c => if p a b c = true then 1 else 0) n ≤ n := by
    intro a b; have := sumN_le (f := fun c => if p a b c = true then 1 else 0) (B := 1) n (fun c _ => h1 a b c); omega
  have h3 : ∀ a, sumN (fun b => sumN (fun c => if p a b c = true then 1 else 0) n) n ≤ n * n := fun a => sumN_le n fun b _ => h2 a b
  unfold cntT
  rw [sumN_full n fun a _ => h3 a]
  constructor
  · intro h a ha b hb c hc
    have h4 := (sumN_full n fun b _ => h2 a b).1 (h a ha) b hb
    have h5 := (sumN_full (B := 1) n fun c _ => h1 a b c).1 (by rw [Nat.mul_one]; exact h4) c hc
    by_cases e : p a b c = true
    · exact e
    · rw [if_neg e] at h5; omega
  · intro h a ha
    rw [sumN_full n fun b _ => h2 a b]
    intro b hb
    have : sumN (fun c => if p a b c = true then 1 else 0) n = n * 1 := (sumN_full (B := 1) n fun c _ => h1 a b c).2 fun c hc => by rw [if_pos (h a ha b hb c hc)]
    rw [this, Nat.mul_one]
theorem cntT_le (n : Nat) (p : Nat → Nat → Nat → Bool) : cntT n p ≤ n * (n * n) := by
  refine sumN_le n fun a _ => sumN_le n fun b _ => ?_
  have := sumN_le (f := fun c => if p a b c = true then 1 else 0) (B := 1) n (fun c _ => by show (if p a b c = true then 1 else 0) ≤ 1; split <;> omega)
  omega

theorem third_symm (xs : List Blk) (p q : Int) : third xs p q = third xs q p := by
  induction xs with
  | nil => rfl
  | cons b bs ih =>
    rw [third, third, ih, Bool.and_comm]
    split
    · omega
    · rfl

theorem deg_sum {v : Int} {xs : List Blk} (ha : areB v xs) : ∀ k, k ≤ xs.length → sumN (fun i => (numsN (atP (i : Int)) xs k).length) v.toNat = 3 * k := by
  intro k
  induction k with
  | zero => intro _; have e : sumN (fun i => (numsN (atP (i : Int)) xs 0).length) v.toNat = sumN (fun _ => 0) v.toNat := sumN_congr _ (fun i _ => rfl)
            rw [e, sumN_const]; simp
  | succ k ih =>
    intro hk
    have e : ∀ i : Nat, (numsN (atP (i : Int)) xs (k + 1)).length = (numsN (atP (i : Int)) xs k).length + (if hasB (nth xs k) i = true then 1 else 0) := by
      intro i
      rw [numsN, List.length_append]
      unfold atP
      split <;> simp
    rw [sumN_congr _ (fun i _ => e i), sumN_add, ih (by omega), sumN_cnt]
    have hg := (ha k (by omega)).1
    have hb := good_bd hg
    rw [cntF_has hg, if_pos (by omega), if_pos (by omega), if_pos (by omega)]
    omega
theorem full_cov {v : Int} {xs : List Blk} (hs : isSys v xs) (hf : fullB v xs = true) {p q : Nat} (hp : (p : Int) < v) (hq : (q : Int) < v) (hne : p ≠ q) : ∃ j, j < xs.length ∧ inB (nth xs j) p q = true := by
  obtain ⟨n, rfl⟩ := Int.eq_ofNat_of_zero_le (by have := hs.1.1; omega : 0 ≤ v)
  have hv := hs.1
  have hself : ∀ i, covK xs i xs.length i = false := by
    intro i; rw [← Bool.not_eq_true, covK_iff]; rintro ⟨j, _, h2⟩; exact (inB_iff.1 h2).1 rfl
  have hle : ∀ i, i < n → 2 * (numsN (atP (i : Int)) xs xs.length).length ≤ n - 1 := by
    intro i hi
    have h1 := cov_cnt hs (i := i) (by omega) xs.length (Nat.le_refl _)
    rw [Int.toNat_natCast] at h1
    have h2 := cntF_le (covK xs i xs.length) n
    have h3 : cntF (covK xs i xs.length) n ≠ n := by
      intro e
      have := (cntF_all n).1 e i hi
      rw [hself i] at this; cases this
    omega
  have hsum := deg_sum hs.2.2.1 xs.length (Nat.le_refl _)
  rw [Int.toNat_natCast] at hsum
  have hs2 : sumN (fun i => 2 * (numsN (atP (i : Int)) xs xs.length).length) n = n * (n - 1) := by
    have e : ∀ i, i < n → 2 * (numsN (atP (i : Int)) xs xs.length).length = (numsN (atP (i : Int)) xs xs.length).length + (numsN (atP (i : Int)) xs xs.length).length := fun i _ => by omega
    rw [sumN_congr n e, sumN_add, hsum]
    unfold fullB at hf
    rw [beq_iff_eq] at hf
    have h6 : ((n * (n - 1) : Nat) : Int) = (n : Int) * ((n : Int) - 1) := by push_cast; congr 1; omega
    rw [← h6] at hf
    omega
  have heq := (sumN_full n hle).1 hs2 p (by omega)
  have h1 := cov_cnt hs (i := p) (by omega) xs.length (Nat.le_refl _)
  rw [Int.toNat_natCast] at h1
  have hor := cntF_or (f := covK xs p xs.length) (g := fun q => decide (q = p)) (h := fun q => covK xs p xs.length q || decide (q = p)) n (fun j hj => ⟨rfl, by
    by_cases e : j = p
    · subst e; rw [hself]; rfl
    · simp [e]⟩)
  rw [cntF_eq p n (by omega)] at hor
  have hall := (cntF_all (f := fun q => covK xs p xs.length q || decide (q = p)) n).1 (by omega) q (by omega)
  simp only [Bool.or_eq_true, decide_eq_true_eq] at hall
  rcases hall with h | h
  · exact (covK_iff xs p q xs.length).1 h
  · exact absurd h.symm hne
theorem third_full {v : Int} {xs : List Blk} (hs : isSys v xs) (hf : fullB v xs = true) {p q : Nat} (hp : (p : Int) < v) (hq : (q : Int) < v) (hne : p ≠ q) : 0 ≤ third xs p q ∧ third xs p q < v ∧ third xs p q ≠ p ∧ third xs p q ≠ q := by
  obtain ⟨j, h1, h2⟩ := full_cov hs hf hp hq hne
  rcases first_of (P := fun j => bothB (nth xs j) p q) xs.length with h | ⟨i, k1, k2, k3⟩
  · have := h j h1
    have h3 := inB_iff.1 h2
    unfold bothB at this
    rw [h3.2.1, h3.2.2] at this; cases this
  · rw [third_at p q xs i k1 k2 k3]
    have hin : inB (nth xs i) p q = true := by
      unfold bothB at k2; simp only [Bool.and_eq_true] at k2
      exact inB_iff.2 ⟨by omega, k2.1, k2.2⟩
    have h4 := in_third (hs.2.2.1 i k1).1 hin
    obtain ⟨a1, a2, a3⟩ := inB_iff.1 hin
    have hg := good_bd (hs.2.2.1 i k1).1
    refine ⟨h4.1, h4.2.1, ?_, ?_⟩
    · unfold sumB; rcases has_iff.1 a2 with e | e | e <;> rcases has_iff.1 a3 with e' | e' | e' <;> omega
    · unfold sumB; rcases has_iff.1 a2 with e | e | e <;> rcases has_iff.1 a3 with e' | e' | e' <;> omega

/-- the product of two elements of the loop -/
def loopI (xs : List Blk) (v a b : Int) : Int := if a = v then b else if b = v then a else if a = b then v else third xs a b
theorem prod_bd {v : Int} {xs : List Blk} (hs : isSys v xs) (hf : fullB v xs = true) {a b : Nat} (ha : (a : Int) < v) (hb : (b : Int) < v) : 0 ≤ prodI xs a b ∧ prodI xs a b < v := by
  unfold prodI
  split
  · omega
  · have := third_full hs hf ha hb (by omega); exact ⟨this.1, this.2.1⟩
theorem loop_bd {v : Int} {xs : List Blk} (hs : isSys v xs) (hf : fullB v xs = true) {a b : Nat} (ha : (a : Int) < v + 1) (hb : (b : Int) < v + 1) : 0 ≤ loopI xs v a b ∧ loopI xs v a b < v + 1 := by
  have hv := hs.1
  unfold loopI
  split
  · omega
  · split
    · omega
    · split
      · omega
      · have := third_full hs hf (p := a) (q := b) (by omega) (by omega) (by omega); omega
theorem prod_symm (xs : List Blk) (a b : Int) : prodI xs a b = prodI xs b a := by
  unfold prodI
  by_cases h : a = b
  · subst h; rfl
  · rw [if_neg h, if_neg (Ne.symm h), third_symm]
/-- the row of a of a table -/
def tabR (op : Int → Int → Int) (n : Nat) (a : Nat) : List Int := (List.range n).map fun b : Nat => op (a : Int) (b : Int)
theorem tabR_len (op : Int → Int → Int) (n a : Nat) : (tabR op n a).length = n := by simp [tabR]
theorem tabR_nth (op : Int → Int → Int) {n a b : Nat} (hb : b < n) : nthI (tabR op n a) b = op a b := by simp [tabR, nthI, hb]
theorem tabR_succ (op : Int → Int → Int) (n a : Nat) : tabR op (n + 1) a = tabR op n a ++ [op a n] := by simp [tabR, List.range_succ]
def tab (op : Int → Int → Int) (n : Nat) : List (List Int) := (List.range n).map (tabR op n)
theorem tab_len (op : Int → Int → Int) (n : Nat) : (tab op n).length = n := by simp [tab]

/-- is a table distributive -/
noncomputable def disB (op : Int → Int → Int) (n : Nat) : Bool := open Classical in decide (∀ a b c : Nat, a < n → b < n → c < b → op a (op b c) = op (op a b) (op a c))
theorem disB_true {op : Int → Int → Int} {n : Nat} (h : ∀ a b c : Nat, a < n → b < n → c < b → op a (op b c) = op (op a b) (op a c)) : disB op n = true := by unfold disB; simpa using h
theorem disB_false {op : Int → Int → Int} {n : Nat} (h : ¬ ∀ a b c : Nat, a < n → b < n → c < b → op a (op b c) = op (op a b) (op a c)) : disB op n = false := by unfold disB; simpa using h
theorem disB_cnt {op : Int → Int → Int} {n : Nat} (hsym : ∀ a b, op a b = op b a) (hid : ∀ a, op a a = a) :
    (cntT n (fun a b c => op a (op b c) == op (op a b) (op a c)) == n * (n * n)) = disB op n := by
  rw [Bool.eq_iff_iff, beq_iff_eq, cntT_all]
  unfold disB
  simp only [decide_eq_true_eq, beq_iff_eq]
  constructor
  · intro h a b c ha hb hc; exact h a ha b hb c (by omega)
  · intro h a ha b hb c hc
    rcases Nat.lt_trichotomy c b with hlt | rfl | hgt
    · exact h a b c ha hb hlt
    · rw [hid, hid]
    · rw [hsym b c, hsym (op a b) (op a c)]; exact h a c b ha hc hgt

end Go.Proofs.Ytbknpflbafjblaa

/- Lists of lists in memory whose lists are rows of their own, so that each can be written and appended to; conditions: none. -/
namespace Go.Proofs.Ytbknpflbafjblaa
open Go.RowKit
set_option linter.unusedSimpArgs false
set_option linter.unusedVariables false

def updA {α : Type} (f : Nat → α) (k : Nat) (x : α) : Nat → α := fun i => if i = k then x else f i
theorem updA_same {α : Type} (f : Nat → α) (k : Nat) (x : α) : updA f k x k = x := by simp [updA]
theorem updA_ne {α : Type} (f : Nat → α) {k j : Nat} (x : α) (h : j ≠ k) : updA f k x j = f j := by simp [updA, h]
/-- a row of numbers of its own -/
def Ro (w : World) (base : Nat) (h : Value) (xs : List Int) : Prop := w.ownsRow base 2 1 h xs.length (xs.map (Value.int .i64))
theorem Ro.below {w w' : World} {base : Nat} {h : Value} {xs : List Int} (hR : Ro w base h xs) (hb : Below w.heap.size w w') : Ro w' base h xs := own_below hR hb
/-- n rows of their own, all in different blocks, and none in the block of u -/
def Fam (w : World) (base : Nat) (u : Value) (hs : Nat → Value) (xs : Nat → List Int) (n : Nat) : Prop :=
  (∀ k, k < n → Ro w base (hs k) (xs k)) ∧ (∀ k, k < n → ∀ b, (hs k).ownBlock = some b → u.ownBlock ≠ some b) ∧ (∀ j k, j < n → k < n → j ≠ k → ∀ b, (hs j).ownBlock = some b → (hs k).ownBlock ≠ some b)
/-- u is a row of its own of the first m headers -/
def Hd (w : World) (base : Nat) (u : Value) (hs : Nat → Value) (m : Nat) : Prop := w.ownsRow base 42 1 u m ((List.range m).map hs)
def LLh (w : World) (base : Nat) (u : Value) (hs : Nat → Value) (xs : Nat → List Int) (m n : Nat) : Prop := Hd w base u hs m ∧ Fam w base u hs xs n
theorem LLh.below {w w' : World} {base : Nat} {u : Value} {hs : Nat → Value} {xs : Nat → List Int} {m n : Nat} (h : LLh w base u hs xs m n) (hb : Below w.heap.size w w') : LLh w' base u hs xs m n :=
  ⟨own_below h.1 hb, fun k hk => (h.2.1 k hk).below hb, h.2.2.1, h.2.2.2⟩
theorem LLh.base {w : World} {base base' : Nat} {u : Value} {hs : Nat → Value} {xs : Nat → List Int} {m n : Nat} (h : LLh w base u hs xs m n) (hb : base' ≤ base) : LLh w base' u hs xs m n :=
  ⟨own_base h.1 hb, fun k hk => own_base (h.2.1 k hk) hb, h.2.2.1, h.2.2.2⟩
/-- a row made since W is one more -/
theorem LLh.more {W w : World} {base : Nat} {u h : Value} {hs : Nat → Value} {xs : Nat → List Int} {m n : Nat} {row : List Int} (hL : LLh W base u hs xs m n) (hb : Below W.heap.size W w) (hmn : m ≤ n) (hB : base ≤ W.heap.size) (hR : Ro w W.heap.size h row) :
    LLh w base u (updA hs n h) (updA xs n row) m (n + 1) := by
  have hL' := hL.below hb
  have fresh : ∀ b, h.ownBlock = some b → W.heap.size ≤ b := fun b e => (hR.lt b e).1
  have old : ∀ k, k < n → ∀ b, (hs k).ownBlock = some b → b < W.heap.size := fun k hk b e => ((hL.2.1 k hk).lt b e).2
  have oldu : ∀ b, u.ownBlock = some b → b < W.heap.size := fun b e => (hL.1.lt b e).2
  refine ⟨?_, ?_, ?_, ?_⟩
  · have : (List.range m).map (updA hs n h) = (List.range m).map hs := List.map_congr_left fun i hi => updA_ne hs h (by have := List.mem_range.1 hi; omega)
    unfold Hd; rw [this]; exact hL'.1
  · intro k hk
    by_cases e : k = n
    · subst e; rw [updA_same, updA_same]; exact own_base hR hB
    · rw [updA_ne _ _ e, updA_ne _ _ e]; exact hL'.2.1 k (by omega)
  · intro k hk b hb2
    by_cases e : k = n
    · subst e; rw [updA_same] at hb2; intro e2; have := fresh b hb2; have := oldu b e2; omega
    · rw [updA_ne _ _ e] at hb2; exact hL'.2.2.1 k (by omega) b hb2
  · intro j k hj hk hne b hb2
    by_cases e : j = n
    · subst e
      rw [updA_same] at hb2
      rw [updA_ne _ _ (Ne.symm hne)]
      intro e2; have := fresh b hb2; have := old k (by omega) b e2; omega
    · rw [updA_ne _ _ e] at hb2
      by_cases e3 : k = n
      · subst e3; rw [updA_same]; intro e2; have := fresh b e2; have := old j (by omega) b hb2; omega
      · rw [updA_ne _ _ e3]; exact hL'.2.2.2 j k (by omega) (by omega) hne b hb2
/-- a row was written or appended to, its header is not in u (yet) -/
theorem LLh.grow {w w' : World} {base : Nat} {u h' : Value} {hs : Nat → Value} {xs : Nat → List Int} {m n k : Nat} {row : List Int} (hL : LLh w base u hs xs m n) (hk : k < n) (hg : w.grownBy w' (hs k).ownBlock) (hR : Ro w' base h' row)
    (hat : h'.ownBlock = (hs k).ownBlock ∨ ∃ b, h'.ownBlock = some b ∧ w.heap.size ≤ b) :
    Hd w' base u hs m ∧ Fam w' base u (updA hs k h') (updA xs k row) n := by
  have old : ∀ j, j < n → ∀ b, (hs j).ownBlock = some b → b < w.heap.size := fun j hj b e => ((hL.2.1 j hj).lt b e).2
  have oldu : ∀ b, u.ownBlock = some b → b < w.heap.size := fun b e => (hL.1.lt b e).2
  have nu : ∀ b, h'.ownBlock = some b → u.ownBlock ≠ some b := by
    intro b hb e
    rcases hat with h | ⟨c, h, hc⟩
    · exact hL.2.2.1 k hk b (h ▸ hb) e
    · rw [h] at hb; simp only [Option.some.injEq] at hb; subst hb; have := oldu _ e; omega
  have nh : ∀ j, j < n → j ≠ k → ∀ b, h'.ownBlock = some b → (hs j).ownBlock ≠ some b := by
    intro j hj hjk b hb e
    rcases hat with h | ⟨c, h, hc⟩
    · exact hL.2.2.2 k j hk hj (Ne.symm hjk) b (h ▸ hb) e
    · rw [h] at hb; simp only [Option.some.injEq] at hb; subst hb; have := old j hj _ e; omega
  refine ⟨World.ownsRow.kept hL.1 hg ?_, ?_, ?_, ?_⟩
  · cases e : u.ownBlock with
    | none => exact .inl rfl
    | some b => right; intro e2; exact hL.2.2.1 k hk b e2.symm e
  · intro j hj
    by_cases e : j = k
    · subst e; rw [updA_same, updA_same]; exact hR
    · rw [updA_ne _ _ e, updA_ne _ _ e]
      refine World.ownsRow.kept (hL.2.1 j hj) hg ?_
      cases e2 : (hs j).ownBlock with
      | none => exact .inl rfl
      | some b => right; intro e3; exact hL.2.2.2 j k hj hk e b e2 e3.symm
  · intro j hj b hb
    by_cases e : j = k
    · subst e; rw [updA_same] at hb; exact nu b hb
    · rw [updA_ne _ _ e] at hb; exact hL.2.2.1 j hj b hb
  · intro i j hi hj hij b hb
    by_cases e : i = k
    · subst e; rw [updA_same] at hb; rw [updA_ne _ _ (Ne.symm hij)]; exact nh j hj (Ne.symm hij) b hb
    · rw [updA_ne _ _ e] at hb
      by_cases e2 : j = k
      · subst e2; rw [updA_same]; intro e3; exact nh i hi e b e3 hb
      · rw [updA_ne _ _ e2]; exact hL.2.2.2 i j hi hj hij b hb
/-- .. and its header is none of those in u -/
theorem LLh.grow_out {w w' : World} {base : Nat} {u h' : Value} {hs : Nat → Value} {xs : Nat → List Int} {m n k : Nat} {row : List Int} (hL : LLh w base u hs xs m n) (hk : k < n) (hm : m ≤ k) (hg : w.grownBy w' (hs k).ownBlock) (hR : Ro w' base h' row)
    (hat : h'.ownBlock = (hs k).ownBlock ∨ ∃ b, h'.ownBlock = some b ∧ w.heap.size ≤ b) : LLh w' base u (updA hs k h') (updA xs k row) m n := by
  obtain ⟨h1, h2⟩ := hL.grow hk hg hR hat
  refine ⟨?_, h2⟩
  have : (List.range m).map (updA hs k h') = (List.range m).map hs := List.map_congr_left fun i hi => updA_ne hs h' (by have := List.mem_range.1 hi; omega)
  unfold Hd; rw [this]; exact h1
theorem range_set {α : Type} (f : Nat → α) (m k : Nat) (x : α) : ((List.range m).map f).set k x = (List.range m).map (updA f k x) := by
  apply List.ext_getElem?
  intro i
  by_cases hi : i < m
  · by_cases e : i = k
    · subst e; simp [updA, hi]
    · rw [List.getElem?_set_ne (Ne.symm e)]; simp [updA, hi, e]
  · simp [hi, List.getElem?_eq_none]
/-- .. and its new header is written into u -/
theorem LLh.put {w w' : World} {base gu c : Nat} {h' : Value} {hs : Nat → Value} {xs : Nat → List Int} {m n k : Nat} {row : List Int} (hL : LLh w base (.slice (some ⟨gu, 0, none⟩) m c) hs xs m n) (hk : k < m) (hmn : m ≤ n) (hg : w.grownBy w' (hs k).ownBlock) (hR : Ro w' base h' row)
    (hat : h'.ownBlock = (hs k).ownBlock ∨ ∃ b, h'.ownBlock = some b ∧ w.heap.size ≤ b) : LLh (w'.setCell ⟨gu, k, none⟩ h') base (.slice (some ⟨gu, 0, none⟩) m c) (updA hs k h') (updA xs k row) m n := by
  obtain ⟨h1, h2⟩ := hL.grow (by omega) hg hR hat
  obtain ⟨h3, h4⟩ := World.ownsRow.stored h1 k h'
  refine ⟨by unfold Hd; rw [← range_set]; exact h3, fun j hj => ?_, h2.2.1, h2.2.2⟩
  refine World.ownsRow.kept (h2.1 j hj) h4 ?_
  cases e : (updA hs k h' j).ownBlock with
  | none => exact .inl rfl
  | some b => right; intro e2; exact h2.2.1 j hj b e (by simpa [Value.ownBlock] using e2.symm)
/-- the next header was appended -/
theorem LLh.push {w w1 w2 : World} {base : Nat} {u v2 : Value} {hs : Nat → Value} {xs : Nat → List Int} {m n : Nat} (hL : LLh w base u hs xs m n) (hmn : m < n) (hb : Below w.heap.size w w1) (hg : w1.grownBy w2 u.ownBlock)
    (ho : w2.ownsRow base 42 1 v2 (m + 1) ((List.range m).map hs ++ [hs m])) (hat : v2.ownBlock = u.ownBlock ∨ v2.ownBlock = some w1.heap.size) : LLh w2 base v2 hs xs (m + 1) n := by
  have hL1 := hL.below hb
  refine ⟨by unfold Hd; rw [List.range_succ, List.map_append]; exact ho, fun k hk => ?_, fun k hk b hb2 e => ?_, hL.2.2.2⟩
  · refine World.ownsRow.kept (hL1.2.1 k hk) hg ?_
    cases e : (hs k).ownBlock with
    | none => exact .inl rfl
    | some b => right; intro e2; exact hL.2.2.1 k hk b e e2.symm
  · rcases hat with h | h
    · exact hL.2.2.1 k hk b hb2 (h ▸ e)
    · rw [h] at e; simp only [Option.some.injEq] at e; subst e
      have := ((hL.2.1 k hk).lt _ hb2).2; have := hb.size; omega
/-- a header that is read -/
theorem LLh.at_ {w : World} {base gu c : Nat} {hs : Nat → Value} {xs : Nat → List Int} {m n k : Nat} (hL : LLh w base (.slice (some ⟨gu, 0, none⟩) m c) hs xs m n) (hk : k < m) :
    w.cell? ⟨gu, k, none⟩ = some (hs k) ∧ gu < w.heap.size ∧ base ≤ gu := by
  have h := World.ownsRow.cells hL.1 (g := gu) (by simp [Value.ownBlock]) k (hs k) (by simp [hk])
  have hadd : (⟨gu, 0, none⟩ : Addr).add k = ⟨gu, k, none⟩ := by unfold Addr.add; split <;> simp_all
  rw [hadd] at h
  have := World.ownsRow.lt hL.1 gu (by simp [Value.ownBlock])
  exact ⟨h, this.2, this.1⟩
theorem LLh.frozen {w : World} {base gu c : Nat} {hs : Nat → Value} {xs : Nat → List Int} {m n : Nat} (hL : LLh w base (.slice (some ⟨gu, 0, none⟩) m c) hs xs m n) (k : Nat) : w.frozen? ⟨gu, k, none⟩ = false := World.ownsRow.frozenAt hL.1 k
theorem Ro.il {w : World} {base : Nat} {h : Value} {xs : List Int} (hR : Ro w base h xs) : ∃ B d, h = .slice B xs.length d ∧ Il w B xs ∧ (∀ b, B.map Addr.block = some b → b < w.heap.size ∧ base ≤ b ∧ h.ownBlock = some b) := by
  rcases hR.2 with ⟨rfl, h0⟩ | ⟨g, cap, cur, rfl, hg, hrow, hnc, _, hcs, htk⟩
  · have : xs = [] := List.eq_nil_of_length_eq_zero h0
    subst this
    exact ⟨none, 0, rfl, .inl rfl, fun b e => by simp at e⟩
  · refine ⟨_, _, rfl, .inr ⟨g, 0, rfl, Row.lt hrow, fun k hk => ?_⟩, fun b e => ?_⟩
    · rw [Nat.zero_add, Row.cell hrow]
      have h3 : (xs.map (Value.int .i64))[k]? = some (.int .i64 (nthI xs k)) := by simp [nthI, hk]
      rw [← htk, List.getElem?_take_of_lt (by omega), Array.getElem?_toList] at h3
      exact h3
    · simp only [Option.map_some, Option.some.injEq] at e
      subst e
      exact ⟨Row.lt hrow, hg, rfl⟩
/-- all headers are there: to read -/
theorem LLh.llr {w : World} {base : Nat} {u : Value} {hs : Nat → Value} {xs : Nat → List Int} {m : Nat} (hL : LLh w base u hs xs m m) : LLr w base u ((List.range m).map xs) := by
  have h1 := hL.1
  unfold Hd at h1
  refine ⟨(List.range m).map hs, by simpa using h1, fun k hk => ?_⟩
  have hkm : k < m := by simpa using hk
  obtain ⟨B, d, h1, h2, h3⟩ := (hL.2.1 k hkm).il
  have e : nthLL ((List.range m).map xs) k = xs k := by simp [nthLL, hkm]
  rw [e]
  refine ⟨B, d, by simp [hkm, h1], h2, fun b e => ⟨(h3 b e).1, hL.2.2.1 k hkm b (h3 b e).2.2, (h3 b e).2.1⟩⟩

theorem LLh.congr {w : World} {base : Nat} {u : Value} {hs : Nat → Value} {xs ys : Nat → List Int} {m n : Nat} (h : LLh w base u hs xs m n) (e : ∀ k, k < n → xs k = ys k) : LLh w base u hs ys m n :=
  ⟨h.1, fun k hk => e k hk ▸ h.2.1 k hk, h.2.2.1, h.2.2.2⟩
/-- block g holds the headers of m rows of m numbers each: op's table -/
def Tb (w : World) (g : Nat) (op : Int → Int → Int) (m : Nat) : Prop :=
  g < w.heap.size ∧ ∀ a : Nat, a < m → ∃ p o d, p < w.heap.size ∧ w.cell? ⟨g, a, none⟩ = some (.slice (some ⟨p, o, none⟩) m d) ∧ ∀ b : Nat, b < m → w.cell? ⟨p, o + b, none⟩ = some (.int .i64 (op a b))
theorem Tb.below {w w' : World} {g : Nat} {op : Int → Int → Int} {m : Nat} (h : Tb w g op m) (hb : Below w.heap.size w w') : Tb w' g op m := by
  refine ⟨Nat.lt_of_lt_of_le h.1 hb.size, fun a ha => ?_⟩
  obtain ⟨p, o, d, h1, h2, h3⟩ := h.2 a ha
  exact ⟨p, o, d, Nat.lt_of_lt_of_le h1 hb.size, (hb.cell (p := ⟨g, a, none⟩) h.1).trans h2, fun b hb2 => (hb.cell (p := ⟨p, o + b, none⟩) h1).trans (h3 b hb2)⟩
theorem LLh.form {w : World} {base : Nat} {u : Value} {hs : Nat → Value} {xs : Nat → List Int} {m n : Nat} (h : LLh w base u hs xs m n) (hm : 0 < m) : ∃ g c, u = .slice (some ⟨g, 0, none⟩) m c ∧ base ≤ g ∧ g < w.heap.size := by
  rcases h.1.2 with ⟨_, h0⟩ | ⟨g, cap, cur, hv, hb, hg, _⟩
  · omega
  · exact ⟨g, cap, hv, hb, Row.lt hg⟩
theorem Ro.form {w : World} {base : Nat} {u : Value} {xs : List Int} (h : Ro w base u xs) (hm : 0 < xs.length) : ∃ g c, u = .slice (some ⟨g, 0, none⟩) xs.length c ∧ base ≤ g ∧ g < w.heap.size ∧ ∀ k, k < xs.length → w.cell? ⟨g, k, none⟩ = some (.int .i64 (nthI xs k)) := by
  rcases h.2 with ⟨_, h0⟩ | ⟨g, cap, cur, hv, hb, hg, hnc, _, hcs, htk⟩
  · omega
  · refine ⟨g, cap, hv, hb, Row.lt hg, fun k hk => ?_⟩
    rw [Row.cell hg]
    have h3 : (xs.map (Value.int .i64))[k]? = some (.int .i64 (nthI xs k)) := by simp [nthI, hk]
    rw [← htk, List.getElem?_take_of_lt (by omega), Array.getElem?_toList] at h3
    exact h3
theorem LLh.tb {w : World} {base g c m : Nat} {hs : Nat → Value} {op : Int → Int → Int} (h : LLh w base (.slice (some ⟨g, 0, none⟩) m c) hs (tabR op m) m m) (hm : 0 < m) : Tb w g op m := by
  refine ⟨(World.ownsRow.lt h.1 g (by simp [Value.ownBlock])).2, fun a ha => ?_⟩
  obtain ⟨h1, _, _⟩ := h.at_ ha
  obtain ⟨p, d, h2, _, h3, h4⟩ := (h.2.1 a ha).form (by rw [tabR_len]; omega)
  rw [tabR_len] at h2 h4
  refine ⟨p, 0, d, h3, by rw [h1, h2], fun b hb => ?_⟩
  rw [Nat.zero_add, h4 b hb, tabR_nth op hb]

end Go.Proofs.Ytbknpflbafjblaa

/- Contracts of tables of products; conditions: stated in each. -/
namespace Go.Proofs.Ytbknpflbafjblaa
open Go.RowKit
set_option maxHeartbeats 400000
set_option maxRecDepth 100000
set_option linter.unusedSimpArgs false
set_option linter.unusedVariables false

theorem infoList' : (Try.prog.info? 42).map (fun i => (i.zero, i.size, i.bytes)) = some (some (.slice none 0 0), 1, 24) := by kernel_rfl

theorem Ro.cells {w : World} {base g : Nat} {c : Nat} {xs : List Int} (h : Ro w base (.slice (some ⟨g, 0, none⟩) xs.length c) xs) : ∀ j u, (xs.map (Value.int .i64))[j]? = some u → w.cell? ((⟨g, 0, none⟩ : Addr).add j) = some u := World.ownsRow.cells h (by simp [Value.ownBlock])
theorem l01Own_any (u : Value) (base : Nat) (ns : List Int) (w : World) (hR : Ro w base u ns) (hl : ns.length ≤ 1048576) :
    Calls Try.prog 121 #[u] w fun e w' => ∃ r, e = .returned r ∧ Ro w' w.heap.size r ns ∧ Below w.heap.size w w' := by
  obtain ⟨ni0, hni, hni0, hni1, hni2⟩ := info_parts infoInt'
  have HE : Hid (Ro (w.alloc (.cells #[] 2)) w.heap.size (.slice (some ⟨w.heap.size, 0, none⟩) 0 0) []) := own_empty _ _ _
  have HB := Lib.hid (below_alloc w (.cells #[] 2))
  have HR := Lib.hid hR
  rcases hR.2 with ⟨rfl, h0⟩ | ⟨g, cap, cur, rfl, _⟩
  · obtain rfl := List.eq_nil_of_length_eq_zero h0
    clear hR
    go_enter Try.func121, Try.ntmps121
    go_wp2_with (at_builtin; refine wpList_append_own_none rfl _ _ 42 rfl w.heap.size 2 ni0 1 (by rfl) hni _ 0 [] rfl HE.out rfl ?_)
    go_ret
    exact ⟨_, rfl, HE.out, HB.out⟩
  · clear hR
    have HRC := Lib.hid (HR.out.below HB.out)
    go_enter Try.func121, Try.ntmps121
    go_wp2_with (at_builtin; refine wpList_append_own _ rfl _ _ 42 rfl w.heap.size 2 ni0 (.int .i64 0) 1 8 Try.underlying42 hni hni0 hni1 hni2 rfl (by decide) _ _ _ rfl HE.out ⟨g, 0, none⟩ ns.length cap (ns.map (Value.int .i64)) rfl (by simp) (Ro.cells HRC.out) (by simp [Value.oneCell']) (by unfold maxLen; simp; omega) (by simp; omega) (by simp) ?_; intro v2 w2 hown2 hg2 _)
    have HO : Hid (Ro w2 w.heap.size v2 ns) := by unfold Hid Ro; simpa using hown2
    have HB2 : Hid (Below w.heap.size w w2) := HB.out.grown hg2 HB.out.size (own_block HE.out)
    clear hown2 hg2
    go_ret
    exact ⟨_, rfl, HO.out, HB2.out⟩

end Go.Proofs.Ytbknpflbafjblaa

/- Contracts for AreDisjoint and IsClass, of the reference and of the program; conditions: stated in each. -/
namespace Go.Proofs.Ytbknpflbafjblaa
open Go.RowKit
set_option maxHeartbeats 400000
set_option linter.unusedSimpArgs false
set_option linter.unusedVariables false

/-- the code of a system and of a set of blocks -/
noncomputable def setCode (v : Int) (xs : List Blk) (ls : List Int) : Int := if isSysB v xs = true then (if risesB ls xs.length = true then 0 else 2) else 1
theorem setCode_zero {v : Int} {xs : List Blk} {ls : List Int} (h : setCode v xs ls = 0) : isSysB v xs = true ∧ risesB ls xs.length = true := by
  unfold setCode at h; (repeat' split at h) <;> simp_all

theorem l05Bits_any (b : Blk) (w : World) (hg : goodB 15 b = true) :
    Calls Try.prog 119 #[.agg #[.int .i64 b.1, .int .i64 b.2.1, .int .i64 b.2.2]] w fun e w' => e = .returned (.int .i64 (maskB b : Nat)) ∧ Below w.heap.size w w' := by
  obtain ⟨h0, h1, h2, h3⟩ := good_bd hg
  obtain ⟨x, y, z⟩ := b
  dsimp only at *
  obtain ⟨X, rfl⟩ := Int.eq_ofNat_of_zero_le h0
  obtain ⟨Y, rfl⟩ := Int.eq_ofNat_of_zero_le (by omega : 0 ≤ y)
  obtain ⟨Z, rfl⟩ := Int.eq_ofNat_of_zero_le (by omega : 0 ≤ z)
  have hp : ∀ n : Nat, n < 15 → 2 ^ n < 32768 := fun n hn => Nat.pow_lt_pow_right (by omega) hn
  have hx := hp X (by omega); have hy := hp Y (by omega); have hz := hp Z (by omega)
  have HM : Hid ((maskB ((X : Int), (Y : Int), (Z : Int)) : Nat) = 2 ^ X + 2 ^ Y + 2 ^ Z) := rfl
  generalize maskB _ = M at *
  have HX := Lib.hid hx; have HY := Lib.hid hy; have HZ := Lib.hid hz
  clear hp hx hy hz hg
  go_enter Try.func119, Try.ntmps119
  go_wp2
  go_ret
  refine ⟨ret_int ?_, below_alloc _ _⟩
  have hx := HX.out; have hy := HY.out; have hz := HZ.out
  have ex : ∀ n : Nat, ((2 : Int) ^ n) = ((2 ^ n : Nat) : Int) := fun n => by push_cast; rfl
  rw [HM.out, ex, ex, ex]
  generalize 2 ^ X = a at *
  generalize 2 ^ Y = b at *
  generalize 2 ^ Z = c at *
  go_unwrap
  push_cast
  rfl

end Go.Proofs.Ytbknpflbafjblaa

/- Plain laws of the sets of disjoint blocks, in order, and of their number. Conditions: none. -/
namespace Go.Proofs.Ytbknpflbafjblaa

/-- what the rounds from 'from' to below m give, one after another -/
def loopL (f : Nat → List (List Int)) (p : Nat → Bool) (from_ : Nat) : Nat → List (List Int)
  | 0 => []
  | i + 1 => loopL f p from_ i ++ (if from_ ≤ i ∧ p i = true then f i else [])
def loopS (f : Nat → Nat) (p : Nat → Bool) (from_ : Nat) : Nat → Nat
  | 0 => 0
  | i + 1 => loopS f p from_ i + (if from_ ≤ i ∧ p i = true then f i else 0)
theorem loopL_nil (f : Nat → List (List Int)) (p : Nat → Bool) (a : Nat) : ∀ m, m ≤ a → loopL f p a m = [] := by
  intro m
  induction m with
  | zero => intro _; rfl
  | succ m ih => intro h; rw [loopL, ih (by omega), if_neg (by omega)]; rfl
theorem loopS_nil (f : Nat → Nat) (p : Nat → Bool) (a : Nat) : ∀ m, m ≤ a → loopS f p a m = 0 := by
  intro m
  induction m with
  | zero => intro _; rfl
  | succ m ih => intro h; rw [loopS, ih (by omega), if_neg (by omega)]
/-- whether a block meets none of some blocks -/
noncomputable def okI (xs : List Blk) (now : List Int) (i : Nat) : Bool := open Classical in decide (∀ k, k < now.length → meetB (blkAt xs now k) (nth xs i) = false)
def fromI (now : List Int) : Nat := if now.length = 0 then 0 else (nthI now (now.length - 1)).toNat + 1
/-- the sets of d more disjoint blocks, in order -/
noncomputable def disL (xs : List Blk) : Nat → List Int → List (List Int)
  | 0, now => [now]
  | d + 1, now => loopL (fun i => disL xs d (now ++ [(i : Int)])) (okI xs now) (fromI now) xs.length
/-- their number, by the points' digits -/
def cntS (xs : List Blk) : Nat → Nat → Nat → Nat
  | 0, _, _ => 1
  | d + 1, m, a => loopS (fun i => cntS xs d (m ||| maskB (nth xs i)) (i + 1)) (fun i => maskB (nth xs i) &&& m == 0) a xs.length

theorem loop_len {f : Nat → List (List Int)} {g : Nat → Nat} {p q : Nat → Bool} {a n : Nat} (h : ∀ i, a ≤ i → i < n → p i = q i ∧ (p i = true → (f i).length = g i)) : ∀ m, m ≤ n → (loopL f p a m).length = loopS g q a m := by
  intro m
  induction m with
  | zero => intro _; rfl
  | succ m ih =>
    intro hm
    rw [loopL, loopS, List.length_append, ih (by omega)]
    by_cases ha : a ≤ m
    · obtain ⟨h1, h2⟩ := h m ha (by omega)
      by_cases hp : p m = true
      · rw [if_pos ⟨ha, hp⟩, if_pos ⟨ha, h1 ▸ hp⟩, h2 hp]
      · rw [if_neg (fun h3 => hp h3.2), if_neg (fun h3 => hp (h1 ▸ h3.2))]; rfl
    · rw [if_neg (fun h3 => ha h3.1), if_neg (fun h3 => ha h3.1)]; rfl
theorem nthI_app {now : List Int} {x : Int} {k : Nat} (h : k < now.length) : nthI (now ++ [x]) k = nthI now k := by
  simp [nthI, List.getElem?_append_left h]
theorem nthI_last (now : List Int) (x : Int) : nthI (now ++ [x]) now.length = x := by simp [nthI]
theorem rises_snoc {now : List Int} {n : Nat} {i : Nat} (hr : risesI now n) (hi : i < n) (hf : fromI now ≤ i) : risesI (now ++ [(i : Int)]) n := by
  intro k hk
  rw [List.length_append, List.length_singleton] at hk
  by_cases hkl : k < now.length
  · rw [nthI_app hkl]
    refine ⟨(hr k hkl).1, fun h0 => ?_⟩
    rw [nthI_app (by omega)]
    exact (hr k hkl).2 h0
  · obtain rfl : k = now.length := by omega
    rw [nthI_last]
    refine ⟨by omega, fun h0 => ?_⟩
    rw [nthI_app (by omega)]
    have := (hr (now.length - 1) (by omega)).1
    unfold fromI at hf
    rw [if_neg (by omega)] at hf
    omega
theorem fromI_snoc (now : List Int) (i : Nat) : fromI (now ++ [(i : Int)]) = i + 1 := by
  unfold fromI
  rw [if_neg (by simp), List.length_append, List.length_singleton, Nat.add_sub_cancel, nthI_last]; simp
theorem uni_app (xs : List Blk) (now : List Int) (x : Int) : ∀ k, k ≤ now.length → uni xs (now ++ [x]) k = uni xs now k := by
  intro k
  induction k with
  | zero => intro _; rfl
  | succ k ih => intro hk; rw [uni, uni, ih (by omega), blkAt, blkAt, nthI_app (by omega)]
theorem uni_snoc (xs : List Blk) (now : List Int) (i : Nat) : uni xs (now ++ [(i : Int)]) (now ++ [(i : Int)]).length = uni xs now now.length ||| maskB (nth xs i) := by
  rw [List.length_append, List.length_singleton, uni, uni_app _ _ _ _ (Nat.le_refl _), blkAt, nthI_last]; rfl
theorem meetB_symm {v v' : Int} {a b : Blk} (ha : goodB v a = true) (hb : goodB v' b = true) : meetB a b = meetB b a := by
  rw [Bool.eq_iff_iff, meet_iff a hb, meet_iff b ha, comI_symm]
theorem ok_iff {v : Int} {xs : List Blk} (ha : areB v xs) {now : List Int} {i : Nat} (hr : risesI now xs.length) (hi : i < xs.length) (hf : fromI now ≤ i) :
    okI xs now i = (maskB (nth xs i) &&& uni xs now now.length == 0) := by
  have hr2 := rises_snoc hr hi hf
  have hlen : (now ++ [(i : Int)]).length = now.length + 1 := by simp
  have hm := uni_meet ha hr2 (k := now.length) (by omega)
  have e : blkAt xs (now ++ [(i : Int)]) now.length = nth xs i := by rw [blkAt, nthI_last]; rfl
  rw [e, uni_app _ _ _ _ (Nat.le_refl _), Nat.and_comm] at hm
  rw [Bool.eq_iff_iff, beq_iff_eq, hm]
  unfold okI
  simp only [decide_eq_true_eq]
  have key : ∀ j, j < now.length → meetB (nth xs i) (blkAt xs (now ++ [(i : Int)]) j) = meetB (blkAt xs now j) (nth xs i) := by
    intro j hj
    have : blkAt xs (now ++ [(i : Int)]) j = blkAt xs now j := by rw [blkAt, blkAt, nthI_app hj]
    rw [this]
    exact meetB_symm (ha i hi).1 (blkAt_good ha hr hj)
  constructor
  · intro h j hj; rw [key j hj]; exact h j hj
  · intro h j hj; rw [← key j hj]; exact h j hj
theorem dis_len {v : Int} {xs : List Blk} (ha : areB v xs) : ∀ d now, risesI now xs.length → (disL xs d now).length = cntS xs d (uni xs now now.length) (fromI now) := by
  intro d
  induction d with
  | zero => intro now _; rfl
  | succ d ih =>
    intro now hr
    rw [disL, cntS]
    refine loop_len (n := xs.length) (fun i h1 h2 => ⟨ok_iff ha hr h2 h1, fun _ => ?_⟩) xs.length (Nat.le_refl _)
    rw [ih _ (rises_snoc hr h2 h1), uni_snoc, fromI_snoc]
theorem loopL_bd {f : Nat → List (List Int)} {p : Nat → Bool} {a B : Nat} (h : ∀ i, (f i).length ≤ B) (m : Nat) : (loopL f p a m).length ≤ m * B := by
  induction m with
  | zero => simp [loopL]
  | succ m ih =>
    have := h m
    rw [loopL, List.length_append, Nat.succ_mul]
    split
    · omega
    · simp; omega
theorem dis_bd {xs : List Blk} (hx : xs.length ≤ 35) : ∀ d now, (disL xs d now).length ≤ 35 ^ d := by
  intro d
  induction d with
  | zero => intro now; simp [disL]
  | succ d ih =>
    intro now
    rw [disL, Nat.pow_succ, Nat.mul_comm]
    exact Nat.le_trans (loopL_bd (fun i => ih _) _) (Nat.mul_le_mul_right _ hx)

theorem loopS_bd {f : Nat → Nat} {p : Nat → Bool} {a B : Nat} (h : ∀ i, f i ≤ B) (m : Nat) : loopS f p a m ≤ m * B := by
  induction m with
  | zero => simp [loopS]
  | succ m ih =>
    have := h m
    rw [loopS, Nat.succ_mul]
    split <;> omega
theorem cnt_bd {xs : List Blk} (hx : xs.length ≤ 35) : ∀ d m a, cntS xs d m a ≤ 35 ^ d := by
  intro d
  induction d with
  | zero => intro m a; simp [cntS]
  | succ d ih =>
    intro m a
    rw [cntS, Nat.pow_succ, Nat.mul_comm]
    exact Nat.le_trans (loopS_bd (fun i => ih _ _) _) (Nat.mul_le_mul_right _ hx)

end Go.Proofs.Ytbknpflbafjblaa

/- Contracts of the count of sets of disjoint blocks; conditions: stated in each. -/
namespace Go.Proofs.Ytbknpflbafjblaa
open Go.RowKit
set_option maxHeartbeats 400000
set_option maxRecDepth 100000
set_option linter.unusedSimpArgs false
set_option linter.unusedVariables false

end Go.Proofs.Ytbknpflbafjblaa

/- Contracts of copies of lists, of the search in a list with a guard, and of rows that grow; conditions: stated in each. -/
namespace Go.Proofs.Ytbknpflbafjblaa
open Go.RowKit
set_option maxHeartbeats 400000
set_option maxRecDepth 100000
set_option linter.unusedSimpArgs false
set_option linter.unusedVariables false

@[go_sem] theorem eq_nil_slice (a : Option Addr) (l c : Nat) (w : World) : (binOp .eql 42 (.slice a l c) (.slice none 0 0)).run Try.prog w = .ok (.bool a.isNone) w := by
  have := run_equal_slice_nil (P := Try.prog) w 42 2 a l c Try.underlying42
  simp [binOp, this]
theorem clone_any (u : Value) (base : Nat) (ns : List Int) (w : World) (hR : Ro w base u ns) (hl : ns.length ≤ 1048576) :
    Calls Try.prog 123 #[u] w fun e w' => ∃ r, e = .returned r ∧ Ro w' w.heap.size r ns ∧ Below w.heap.size w w' := by
  obtain ⟨ni0, hni, hni0, hni1, hni2⟩ := info_parts infoInt'
  have HE : Hid (Ro (w.alloc (.cells #[] 2)) w.heap.size (.slice (some ⟨w.heap.size, 0, none⟩) 0 0) []) := own_empty _ _ _
  have HB := Lib.hid (below_alloc w (.cells #[] 2))
  have HR := Lib.hid hR
  rcases hR.2 with ⟨rfl, h0⟩ | ⟨g, cap, cur, rfl, _⟩
  · obtain rfl := List.eq_nil_of_length_eq_zero h0
    clear hR
    go_enter Try.func123, Try.ntmps123
    go_wp2
    go_ret
    exact ⟨_, rfl, World.ownsRow_nil _ _ _ _, Below.refl _ _⟩
  · clear hR
    have HRC := Lib.hid (HR.out.below HB.out)
    go_enter Try.func123, Try.ntmps123
    go_wp2_with (at_builtin; refine wpList_append_own _ rfl _ _ 42 rfl w.heap.size 2 ni0 (.int .i64 0) 1 8 Try.underlying42 hni hni0 hni1 hni2 rfl (by decide) _ _ _ rfl HE.out ⟨g, 0, none⟩ ns.length cap (ns.map (Value.int .i64)) rfl (by simp) (Ro.cells HRC.out) (by simp [Value.oneCell']) (by unfold maxLen; simp; omega) (by simp; omega) (by simp) ?_; intro v2 w2 hown2 hg2 _)
    have HO : Hid (Ro w2 w.heap.size v2 ns) := by unfold Hid Ro; simpa using hown2
    have HB2 : Hid (Below w.heap.size w w2) := HB.out.grown hg2 HB.out.size (own_block HE.out)
    clear hown2 hg2
    go_ret
    exact ⟨_, rfl, HO.out, HB2.out⟩

theorem meets_is {a b : Blk} {r : Bool} (h : meetB a b = r) (w : World) :
    Calls Try.prog 161 #[.agg #[.int .i64 a.1, .int .i64 a.2.1, .int .i64 a.2.2], .agg #[.int .i64 b.1, .int .i64 b.2.1, .int .i64 b.2.2]] w fun e w' => e = .returned (.bool r) ∧ Below w.heap.size w w' := h ▸ meets_any a b w

theorem any_ok (xs : List Blk) (now : List Int) (i : Nat) : anyP (fun k => meetB (nth xs k.toNat) (nth xs i)) now = !okI xs now i := by
  by_cases h : ∀ k, k < now.length → meetB (blkAt xs now k) (nth xs i) = false
  · rw [anyP_false h]; unfold okI; simp; exact h
  · have h2 := h
    simp only [Classical.not_forall] at h
    obtain ⟨k, hk, hm⟩ := h
    rw [anyP_true hk (by simpa [blkAt] using hm)]
    unfold okI; rw [decide_eq_false h2]; rfl

theorem grown_join {W a b : World} {row row' : Option Nat} (h : W.grownBy a row) (k : a.grownBy b row') (hr : row' = row ∨ ∃ q, row' = some q ∧ W.heap.size ≤ q) : W.grownBy b row := by
  refine ⟨k.os.trans h.os, k.tape.trans h.tape, k.output.trans h.output, Nat.le_trans h.size k.size, fun i hi hne => ?_⟩
  rw [← h.block i hi hne]
  refine k.block i (Nat.lt_of_lt_of_le hi h.size) ?_
  rcases hr with rfl | ⟨q, rfl, hq⟩
  · exact hne
  · intro e; simp only [Option.some.injEq] at e; omega
theorem Bl.grown {w w' : World} {A : Option Addr} {xs : List Blk} {row : Option Nat} (h : Bl w A xs) (hg : w.grownBy w' row) (hA : ∀ b, A.map Addr.block = some b → row ≠ some b ∨ xs = []) : Bl w' A xs := by
  rcases h with rfl | ⟨b, o, rfl, hlt, hc⟩
  · exact .inl rfl
  · rcases hA b rfl with hne | rfl
    · refine .inr ⟨b, o, rfl, Nat.lt_of_lt_of_le hlt hg.size, fun k hk => ?_⟩
      have hh := hg.block b hlt (fun e => hne e.symm)
      obtain ⟨h0, h1, h2⟩ := hc k hk
      exact ⟨(World.cell?_of_block (a := ⟨b, o + k * 3, none⟩) hh).trans h0, (World.cell?_of_block (a := ⟨b, o + k * 3 + 1, none⟩) hh).trans h1, (World.cell?_of_block (a := ⟨b, o + k * 3 + 2, none⟩) hh).trans h2⟩
    · exact .inl rfl
theorem Row.grown {w w' : World} {g : Nat} {t : TypeId} {cur : Array Value} {row : Option Nat} (h : Row w g t cur) (hg : w.grownBy w' row) (hne : row ≠ some g) : Row w' g t cur := (hg.block g h.lt (fun e => hne e.symm)).trans h
theorem Ro.grown {w w' : World} {base : Nat} {u : Value} {xs : List Int} {row : Option Nat} (h : Ro w base u xs) (hg : w.grownBy w' row) (hne : ∀ b, u.ownBlock = some b → row ≠ some b) : Ro w' base u xs := by
  refine World.ownsRow.kept h hg ?_
  cases e : u.ownBlock with
  | none => exact .inl rfl
  | some b => right; intro e2; exact hne b e e2.symm

end Go.Proofs.Ytbknpflbafjblaa

/- The contract of the program's lists of sets of disjoint blocks; conditions: stated in it. -/
namespace Go.Proofs.Ytbknpflbafjblaa
open Go.RowKit
set_option maxHeartbeats 1000000
set_option maxRecDepth 100000
set_option linter.unusedSimpArgs false
set_option linter.unusedVariables false

theorem Ro.slot {w w' : World} {base : Nat} {u : Value} {xs : List Int} {row : Option Nat} (h : Ro w base u xs) (hg : w.grownBy w' row) (hne : ∀ b, u.ownBlock = some b → row ≠ some b) : Ro w' base u xs := h.grown hg hne
/-- u is a row of its own of the lists' headers; each list is a row of its own too -/
def LLq (w : World) (base : Nat) (u : Value) (xss : List (List Int)) : Prop :=
  ∃ vs, w.ownsRow base 42 1 u xss.length vs ∧ ∀ k, k < xss.length → ∃ h, vs[k]? = some h ∧ Ro w base h (nthLL xss k) ∧ ∀ b, h.ownBlock = some b → u.ownBlock ≠ some b
theorem LLq.nil (w : World) (base : Nat) : LLq w base (.slice none 0 0) [] := ⟨[], World.ownsRow_nil _ _ _ _, fun k hk => by simp at hk⟩
theorem LLq.below {w w' : World} {base : Nat} {u : Value} {xss : List (List Int)} (h : LLq w base u xss) (hb : Below w.heap.size w w') : LLq w' base u xss := by
  obtain ⟨vs, ho, hi⟩ := h
  refine ⟨vs, own_below ho hb, fun k hk => ?_⟩
  obtain ⟨r, h1, h2, h3⟩ := hi k hk
  exact ⟨r, h1, h2.below hb, h3⟩
theorem LLq.own_lt {w : World} {base : Nat} {u : Value} {xss : List (List Int)} (h : LLq w base u xss) : ∀ b, u.ownBlock = some b → base ≤ b ∧ b < w.heap.size := by
  obtain ⟨vs, ho, _⟩ := h
  intro b hb
  exact ho.lt b hb
theorem LLq.slice {w : World} {base : Nat} {u : Value} {xss : List (List Int)} (h : LLq w base u xss) : ∃ A c, u = .slice A xss.length c := by
  obtain ⟨vs, ho, _⟩ := h
  exact own_slice ho
theorem LLq.snoc {w w1 w2 : World} {base : Nat} {u v2 r : Value} {xss : List (List Int)} {vs : List Value} {xs : List Int}
    (hi : ∀ k, k < xss.length → ∃ h, vs[k]? = some h ∧ Ro w base h (nthLL xss k) ∧ ∀ b, h.ownBlock = some b → u.ownBlock ≠ some b) (hv : vs.length = xss.length) (hB : Ro w base r xs) (hf : ∀ b, r.ownBlock = some b → u.ownBlock ≠ some b)
    (hb : Below w.heap.size w w1) (hg : w1.grownBy w2 u.ownBlock) (ho : w2.ownsRow base 42 1 v2 (xss.length + 1) (vs ++ [r])) (hat : v2.ownBlock = u.ownBlock ∨ v2.ownBlock = some w1.heap.size) :
    LLq w2 base v2 (xss ++ [xs]) := by
  have key : ∀ {h : Value} {ys : List Int}, Ro w base h ys → (∀ b, h.ownBlock = some b → u.ownBlock ≠ some b) → Ro w2 base h ys ∧ ∀ b, h.ownBlock = some b → v2.ownBlock ≠ some b := by
    intro h ys h1 h2
    refine ⟨(h1.below hb).grown hg h2, fun b e => ?_⟩
    rcases hat with h' | h'
    · rw [h']; exact h2 b e
    · rw [h']; intro e2
      simp only [Option.some.injEq] at e2
      have := (h1.lt b e).2; have := hb.size; omega
  refine ⟨vs ++ [r], by rw [List.length_append]; exact ho, fun k hk => ?_⟩
  rw [List.length_append, List.length_singleton] at hk
  by_cases hkl : k < xss.length
  · obtain ⟨h, h1, h2, h3⟩ := hi k hkl
    have e : nthLL (xss ++ [xs]) k = nthLL xss k := by simp [nthLL, List.getElem?_append_left hkl]
    rw [e]
    exact ⟨h, by rw [List.getElem?_append_left (by omega)]; exact h1, key h2 h3⟩
  · obtain rfl : k = xss.length := by omega
    have e : nthLL (xss ++ [xs]) xss.length = xs := by simp [nthLL]
    rw [e]
    exact ⟨r, by rw [← hv]; simp, key hB hf⟩
theorem LLq.at_ {w : World} {base : Nat} {A : Option Addr} {n c : Nat} {xss : List (List Int)} (h : LLq w base (.slice A n c) xss) {k : Nat} (hk : k < xss.length) :
    ∃ g r, A = some ⟨g, 0, none⟩ ∧ g < w.heap.size ∧ w.cell? ⟨g, k, none⟩ = some r ∧ Ro w base r (nthLL xss k) := by
  obtain ⟨vs, ho, hi⟩ := h
  obtain ⟨r, h1, h2, h3⟩ := hi k hk
  rcases ho.2 with ⟨_, hn⟩ | ⟨g, cap, cur, hv, hge, hg, hnc, _, hcs, htk⟩
  · omega
  · simp only [Value.slice.injEq] at hv
    refine ⟨g, r, hv.1, Row.lt hg, ?_, h2⟩
    rw [Row.cell hg]
    rw [← htk, List.getElem?_take_of_lt (by omega), Array.getElem?_toList] at h1
    exact h1

/-- what a call leaves: u, a row of lists; but for the row of v and for new blocks all is as it was -/
def Grew (w w' : World) (v u : Value) : Prop := w.grownBy w' v.ownBlock ∧ (u.ownBlock = v.ownBlock ∨ ∃ b, u.ownBlock = some b ∧ w.heap.size ≤ b)
theorem Grew.refl (w : World) (v : Value) : Grew w w v v := ⟨grown_refl w _, .inl rfl⟩
theorem Grew.below {w a b : World} {v u : Value} (h : Grew w a v u) (hb : Below a.heap.size a b) : Grew w b v u := ⟨grown_trans h.1 (grown_below hb _), h.2⟩
theorem Grew.join {w a b : World} {v u x : Value} (h : Grew w a v u) (k : Grew a b u x) : Grew w b v x := by
  refine ⟨grown_join h.1 k.1 h.2, ?_⟩
  rcases k.2 with e | ⟨q, e, hq⟩
  · rw [e]; exact h.2
  · exact .inr ⟨q, e, Nat.le_trans h.1.size hq⟩
theorem Grew.out {w a : World} {v u : Value} {B : Nat} (h : Grew w a v u) (hB : B ≤ w.heap.size) (hv : ∀ b, v.ownBlock = some b → B ≤ b) : Below B w a := (Below.refl B w).grown h.1 hB hv
theorem Since.ofAlloc {w a : World} {o : Obj} {v u : Value} (h : Grew (w.alloc o) a v u) : Grew w a v u := by
  refine ⟨grown_trans (grown_below (below_alloc w o) _) h.1, ?_⟩
  rcases h.2 with e | ⟨q, e, hq⟩
  · exact .inl e
  · exact .inr ⟨q, e, by have : w.heap.size ≤ (w.alloc o).heap.size := by simp
                         omega⟩

theorem cells_old {P w8 : World} (hb : Below P.heap.size P w8) {ad : Addr} {vs : List Value} (hlt : ad.block < P.heap.size) (h : ∀ j u, vs[j]? = some u → P.cell? (ad.add j) = some u) : ∀ j u, vs[j]? = some u → w8.cell? (ad.add j) = some u := by
  intro j u hj
  have e : (ad.add j).block = ad.block := by unfold Addr.add; split <;> rfl
  exact (hb.cell (p := ad.add j) (by rw [e]; exact hlt)).trans (h j u hj)
theorem Il.of_Ro {w : World} {base : Nat} {B : Option Addr} {n d : Nat} {xs : List Int} (h : Ro w base (.slice B n d) xs) : Il w B xs := by
  obtain ⟨B', d', e, h2, _⟩ := h.il
  simp only [Value.slice.injEq] at e
  rw [e.1]; exact h2

end Go.Proofs.Ytbknpflbafjblaa

/- Plain laws of the greatest sets of disjoint blocks. Conditions: none. -/
namespace Go.Proofs.Ytbknpflbafjblaa

/-- all sets that go on from one, by up to d more blocks, a set ahead of those that go on from it -/
noncomputable def allL (xs : List Blk) : Nat → List Int → List (List Int)
  | 0, now => [now]
  | d + 1, now => now :: loopL (fun i => allL xs d (now ++ [(i : Int)])) (okI xs now) (fromI now) xs.length
def betterL (b l : List Int) : List Int := if b.length < l.length then l else b
def mostF (b : List Int) (L : List (List Int)) : List Int := L.foldl betterL b
theorem mostF_app (b : List Int) (L M : List (List Int)) : mostF b (L ++ M) = mostF (mostF b L) M := by simp [mostF]
theorem mostF_cons (b l : List Int) (M : List (List Int)) : mostF b (l :: M) = mostF (betterL b l) M := rfl
theorem mostF_nil (b : List Int) : mostF b [] = b := rfl
theorem mostF_stay {b : List Int} : ∀ {L : List (List Int)}, (∀ l ∈ L, l.length ≤ b.length) → mostF b L = b := by
  intro L
  induction L with
  | nil => intro _; rfl
  | cons l L ih =>
    intro h
    have h1 := h l (by simp)
    have : betterL b l = b := by unfold betterL; rw [if_neg (by omega)]
    rw [mostF_cons, this, ih (fun l hl => h l (by simp [hl]))]
theorem mostF_ge (b : List Int) : ∀ L : List (List Int), b.length ≤ (mostF b L).length := by
  intro L
  induction L generalizing b with
  | nil => exact Nat.le_refl _
  | cons l L ih =>
    have h1 : b.length ≤ (betterL b l).length := by unfold betterL; split <;> omega
    exact Nat.le_trans h1 (ih _)
theorem loopL_mem {f : Nat → List (List Int)} {p : Nat → Bool} {a : Nat} : ∀ {m : Nat} {l : List Int}, l ∈ loopL f p a m → ∃ i, a ≤ i ∧ i < m ∧ p i = true ∧ l ∈ f i := by
  intro m
  induction m with
  | zero => intro l h; simp [loopL] at h
  | succ m ih =>
    intro l h
    rw [loopL, List.mem_append] at h
    rcases h with h | h
    · obtain ⟨i, h1, h2, h3⟩ := ih h; exact ⟨i, h1, by omega, h3⟩
    · by_cases e : a ≤ m ∧ p m = true
      · rw [if_pos e] at h; exact ⟨m, e.1, by omega, e.2, h⟩
      · rw [if_neg e] at h; simp at h
/-- the rounds from i on give nothing better -/
theorem loop_stop {f : Nat → List (List Int)} {p : Nat → Bool} {a i : Nat} {b c : List Int} (e : mostF b (loopL f p a i) = c) : ∀ n, i ≤ n → (∀ j, i ≤ j → j < n → a ≤ j → p j = true → ∀ l ∈ f j, l.length ≤ c.length) → mostF b (loopL f p a n) = c := by
  intro n
  induction n with
  | zero => intro hn _; obtain rfl : i = 0 := by omega
            exact e
  | succ n ih =>
    intro hn h
    by_cases hin : i = n + 1
    · subst hin; exact e
    · rw [loopL, mostF_app, ih (by omega) (fun j h1 h2 => h j h1 (by omega))]
      by_cases hc : a ≤ n ∧ p n = true
      · rw [if_pos hc]; exact mostF_stay (h n (by omega) (by omega) hc.1 hc.2)
      · rw [if_neg hc]; rfl
theorem blkAt_app {xs : List Blk} {now : List Int} {x : Int} {k : Nat} (h : k < now.length) : blkAt xs (now ++ [x]) k = blkAt xs now k := by rw [blkAt, blkAt, nthI_app h]
theorem blkAt_last (xs : List Blk) (now : List Int) (i : Nat) : blkAt xs (now ++ [(i : Int)]) now.length = nth xs i := by rw [blkAt, nthI_last]; rfl
theorem apart_snoc {v : Int} {xs : List Blk} (ha : areB v xs) {now : List Int} {i : Nat} (hr : risesI now xs.length) (hd : apart xs now now.length) (hi : i < xs.length) (ok : okI xs now i = true) : apart xs (now ++ [(i : Int)]) (now ++ [(i : Int)]).length := by
  unfold okI at ok
  simp only [decide_eq_true_eq] at ok
  intro a h1 b h2
  rw [List.length_append, List.length_singleton] at h1
  by_cases e : a = now.length
  · subst e
    rw [blkAt_last, blkAt_app h2, meetB_symm (ha i hi).1 (blkAt_good ha hr h2)]
    exact ok b h2
  · rw [blkAt_app (by omega), blkAt_app (by omega)]
    exact hd a (by omega) b h2
theorem three_le {v : Int} {xs : List Blk} (ha : areB v xs) {now : List Int} (hr : risesI now xs.length) (hd : apart xs now now.length) : 3 * now.length ≤ v.toNat := by
  rw [← uni_cnt ha hr hd now.length (Nat.le_refl _)]; exact cntF_le _ _
theorem all_bd {v : Int} {xs : List Blk} (ha : areB v xs) : ∀ d now, risesI now xs.length → apart xs now now.length → ∀ l ∈ allL xs d now, now.length ≤ l.length ∧ l.length ≤ now.length + d ∧ 3 * l.length ≤ v.toNat := by
  intro d
  induction d with
  | zero => intro now hr hd l hl; rw [allL, List.mem_singleton] at hl; subst hl; exact ⟨Nat.le_refl _, by omega, three_le ha hr hd⟩
  | succ d ih =>
    intro now hr hd l hl
    rw [allL, List.mem_cons] at hl
    rcases hl with rfl | hl
    · exact ⟨Nat.le_refl _, by omega, three_le ha hr hd⟩
    · obtain ⟨i, h1, h2, h3, h4⟩ := loopL_mem hl
      have := ih _ (rises_snoc hr h2 h1) (apart_snoc ha hr hd h2 h3) l h4
      rw [List.length_append, List.length_singleton] at this
      omega
theorem filter_loop {q : List Int → Bool} {f : Nat → List (List Int)} {p : Nat → Bool} {a : Nat} : ∀ m, (loopL f p a m).filter q = loopL (fun i => (f i).filter q) p a m := by
  intro m
  induction m with
  | zero => rfl
  | succ m ih =>
    rw [loopL, loopL, List.filter_append, ih]
    congr 1
    split <;> simp
theorem loopL_congr {f g : Nat → List (List Int)} {p : Nat → Bool} {a : Nat} : ∀ m, (∀ i, a ≤ i → i < m → p i = true → f i = g i) → loopL f p a m = loopL g p a m := by
  intro m
  induction m with
  | zero => intro _; rfl
  | succ m ih =>
    intro h
    rw [loopL, loopL, ih (fun i h1 h2 => h i h1 (by omega))]
    by_cases e : a ≤ m ∧ p m = true
    · rw [if_pos e, if_pos e, h m e.1 (by omega) e.2]
    · rw [if_neg e, if_neg e]
theorem loopL_empty {f : Nat → List (List Int)} {p : Nat → Bool} {a : Nat} : ∀ m, (∀ i, a ≤ i → i < m → p i = true → f i = []) → loopL f p a m = [] := by
  intro m
  induction m with
  | zero => intro _; rfl
  | succ m ih =>
    intro h
    rw [loopL, ih (fun i h1 h2 => h i h1 (by omega))]
    by_cases e : a ≤ m ∧ p m = true
    · rw [if_pos e, h m e.1 (by omega) e.2]; rfl
    · rw [if_neg e]; rfl
theorem dis_filter {v : Int} {xs : List Blk} (ha : areB v xs) : ∀ D d now, d ≤ D → risesI now xs.length → apart xs now now.length → (allL xs D now).filter (fun l => decide (l.length = now.length + d)) = disL xs d now := by
  intro D
  induction D with
  | zero => intro d now hd _ _; obtain rfl : d = 0 := by omega
            simp [allL, disL]
  | succ D ih =>
    intro d now hd hr hap
    cases d with
    | zero =>
      rw [allL, List.filter_cons, if_pos (by simp), filter_loop, loopL_empty, disL]
      intro i h1 h2 h3
      rw [List.filter_eq_nil_iff]
      intro l hl
      have := (all_bd ha D _ (rises_snoc hr h2 h1) (apart_snoc ha hr hap h2 h3) l hl).1
      rw [List.length_append, List.length_singleton] at this
      simp; omega
    | succ d =>
      rw [allL, List.filter_cons, if_neg (by simp), filter_loop, disL]
      refine loopL_congr _ fun i h1 h2 h3 => ?_
      rw [← ih d _ (by omega) (rises_snoc hr h2 h1) (apart_snoc ha hr hap h2 h3)]
      congr 1
      funext l
      rw [List.length_append, List.length_singleton]
      congr 1
      rw [eq_iff_iff]; omega
/-- the first one of each number, by ascending numbers, the last one that is there -/
noncomputable def bestK (xs : List Blk) : Nat → List Int
  | 0 => []
  | k + 1 => match disL xs (k + 1) [] with
    | [] => bestK xs k
    | l :: _ => l
theorem most_split {k : Nat} : ∀ {M : List (List Int)} {b : List Int}, b.length ≤ k → (∀ l ∈ M, l.length ≤ k + 1) →
    mostF b M = match M.filter (fun l => decide (l.length = k + 1)) with
      | [] => mostF b (M.filter (fun l => decide (l.length ≤ k)))
      | l :: _ => l := by
  intro M
  induction M with
  | nil => intro b _ _; rfl
  | cons l M ih =>
    intro b hb h
    have h1 := h l (by simp)
    by_cases e : l.length = k + 1
    · rw [List.filter_cons, if_pos (by simpa using e)]
      have : betterL b l = l := by unfold betterL; rw [if_pos (by omega)]
      rw [mostF_cons, this, mostF_stay (fun l' hl' => by have := h l' (by simp [hl']); omega)]
    · rw [List.filter_cons, if_neg (by simpa using e), mostF_cons, ih (b := betterL b l) (by unfold betterL; split <;> omega) (fun l' hl' => h l' (by simp [hl']))]
      have e2 : (l :: M).filter (fun l => decide (l.length ≤ k)) = l :: M.filter (fun l => decide (l.length ≤ k)) := by rw [List.filter_cons, if_pos (by simp; omega)]
      rw [e2, mostF_cons]
theorem best_most {v : Int} {xs : List Blk} (ha : areB v xs) (D : Nat) : ∀ k, k ≤ D → bestK xs k = mostF [] ((allL xs D []).filter (fun l => decide (l.length ≤ k))) := by
  intro k
  induction k with
  | zero =>
    intro _
    rw [bestK, mostF_stay]
    intro l hl
    have := (List.mem_filter.1 hl).2
    simpa using this
  | succ k ih =>
    intro hk
    have hr : risesI [] xs.length := fun k hk => by simp at hk
    have hap : apart xs [] 0 := fun i hi => by omega
    have hd := dis_filter ha D (k + 1) [] hk hr hap
    simp only [List.length_nil, Nat.zero_add] at hd
    rw [most_split (k := k) (by simp) (fun l hl => by have := (List.mem_filter.1 hl).2; simpa using this), List.filter_filter, List.filter_filter]
    have e1 : (allL xs D []).filter (fun a => decide (a.length = k + 1) && decide (a.length ≤ k + 1)) = disL xs (k + 1) [] := by
      rw [← hd]; congr 1; funext l; rw [Bool.eq_iff_iff]; simp; omega
    have e2 : (allL xs D []).filter (fun a => decide (a.length ≤ k) && decide (a.length ≤ k + 1)) = (allL xs D []).filter (fun l => decide (l.length ≤ k)) := by
      congr 1; funext l; rw [Bool.eq_iff_iff]; simp; omega
    rw [e1, e2, ← ih (by omega), bestK]
theorem best_all {v : Int} {xs : List Blk} (hs : isSys v xs) {D : Nat} (hD : v.toNat / 3 ≤ D) (hD5 : D ≤ 5) : bestK xs 5 = mostF [] (allL xs D []) := by
  have hr : risesI [] xs.length := fun k hk => by simp at hk
  have hap : apart xs [] 0 := fun i hi => by omega
  have hv := hs.1.2
  have key : ∀ k, (bestK xs (D + k)) = bestK xs D := by
    intro k
    induction k with
    | zero => rfl
    | succ k ih =>
      rw [← Nat.add_assoc, bestK]
      have h := dis_filter hs.2.2.1 (D + k + 1) (D + k + 1) [] (Nat.le_refl _) hr hap
      have : disL xs (D + k + 1) [] = [] := by
        rw [← h, List.filter_eq_nil_iff]
        intro l hl
        have := all_bd hs.2.2.1 _ _ hr hap l hl
        simp; omega
      rw [this]; exact ih
  have e := best_most hs.2.2.1 D D (Nat.le_refl _)
  have e2 : (allL xs D []).filter (fun l => decide (l.length ≤ D)) = allL xs D [] := by
    rw [List.filter_eq_self]
    intro l hl
    have := all_bd hs.2.2.1 _ _ hr hap l hl
    simp at this ⊢; omega
  rw [e2] at e
  rw [← e, ← key (5 - D)]
  congr 1
  omega

end Go.Proofs.Ytbknpflbafjblaa

/- Contracts of the number of digits and of the greatest sets of disjoint blocks; conditions: stated in each. -/
namespace Go.Proofs.Ytbknpflbafjblaa
open Go.RowKit
set_option maxHeartbeats 1000000
set_option maxRecDepth 100000
set_option linter.unusedSimpArgs false
set_option linter.unusedVariables false

/-- the digits 1 of a number, the first f of them looked at -/
def onesF : Nat → Nat → Nat
  | 0, _ => 0
  | f + 1, n => onesF f (n / 2) + n % 2
theorem onesF_zero : ∀ f, onesF f 0 = 0 := by
  intro f; induction f with
  | zero => rfl
  | succ f ih => simp [onesF, ih]
theorem ones_cnt : ∀ f n, onesF f n = cntF (fun j => n.testBit j) f := by
  intro f
  induction f with
  | zero => intro n; rfl
  | succ f ih =>
    intro n
    rw [onesF, ih]
    have key : ∀ g, cntF (fun j => n.testBit j) (g + 1) = cntF (fun j => (n / 2).testBit j) g + n % 2 := by
      intro g
      induction g with
      | zero => simp [cntF, Nat.testBit_zero]; rcases Nat.mod_two_eq_zero_or_one n with h | h <;> simp [h]
      | succ g ihg =>
        rw [cntF, ihg, cntF, Nat.testBit_div_two]; omega
    rw [key f]

theorem l05Ones_any (n : Nat) (w : World) (hn : n < 32768) :
    Calls Try.prog 72 #[.int .i64 (n : Int)] w fun e w' => e = .returned (.int .i64 (onesF 15 n : Nat)) ∧ Below w.heap.size w w' := by
  have HG : Hid (onesF 15 n = onesF 15 n) := rfl
  go_enter Try.func72, Try.ntmps72
  go_wp2
  go_loopw [0, 3] (fun i q wr => ∃ f m N : Nat, f ≤ 15 ∧ m < 2 ^ f ∧ N + f ≤ 15 ∧ i = .int .i64 m ∧ q = .int .i64 N ∧ Hid (Below w.heap.size w wr ∧ N + onesF f m = onesF 15 n)) (fun i _ _ => (intOf i).toNat)
  case atStart => exact ⟨15, n, 0, by omega, by simpa using hn, by omega, rfl, rfl, Below.refl _ _, by simp⟩
  case round =>
    obtain ⟨f, m, N, hf, hm, hN, rfl, rfl, HC⟩ := hrel
    by_cases hz : m = 0
    · subst hz
      have hof := onesF_zero f
      go_wp2
      go_ret
      exact ⟨ret_int (by have := HC.out.2; rw [hof] at this; rw [← this]; rfl), HC.out.1⟩
    · obtain ⟨f, rfl⟩ : ∃ g, f = g + 1 := by
        rcases f with _ | f
        · simp at hm; omega
        · exact ⟨f, rfl⟩
      have hm2 : m / 2 < 2 ^ f := by rw [Nat.pow_succ] at hm; omega
      have hmb : m < 32768 := by
        have : 2 ^ (f + 1) ≤ 2 ^ 15 := Nat.pow_le_pow_right (by omega) hf
        have e : 2 ^ 15 = 32768 := by decide
        omega
      have HM2 := Lib.hid hm2
      have HST : Hid (onesF (f + 1) m = onesF f (m / 2) + m % 2) := rfl
      have hd : (m : Int).tdiv 2 = ((m / 2 : Nat) : Int) := by rw [Int.tdiv_eq_ediv_of_nonneg (by omega)]; rfl
      have hr : (m : Int).tmod 2 = ((m % 2 : Nat) : Int) := by rw [Int.tmod_eq_emod_of_nonneg (by omega)]; rfl
      have hr2 : m % 2 ≤ 1 := by omega
      clear hm hm2
      go_wp2
      go_roundw
      case rel =>
        refine ⟨f, m / 2, N + m % 2, by omega, HM2.out, by omega, ?_, ?_, HC.out.1, ?_⟩
        · first | exact val_int hd | (simp; omega)
        · exact val_int (by push_cast; rfl)
        · have := HC.out.2; rw [HST.out] at this; omega
      case measure => simp [intOf]; omega

theorem mostF_le {B : Nat} : ∀ {L : List (List Int)} {b : List Int}, b.length ≤ B → (∀ l ∈ L, l.length ≤ B) → (mostF b L).length ≤ B := by
  intro L
  induction L with
  | nil => intro b hb _; exact hb
  | cons l L ih =>
    intro b hb h
    rw [mostF_cons]
    refine ih ?_ (fun l' hl' => h l' (by simp [hl']))
    unfold betterL; split
    · exact h l (by simp)
    · exact hb
/-- what is known of a set of disjoint blocks on the way -/
def Way (v : Int) (xs : List Blk) (now : List Int) (m a : Nat) : Prop := risesI now xs.length ∧ apart xs now now.length ∧ m = uni xs now now.length ∧ a = fromI now
theorem Way.step {v : Int} {xs : List Blk} {now : List Int} {m a i : Nat} (ha : areB v xs) (h : Way v xs now m a) (hi : i < xs.length) (hai : a ≤ i) (ok : okI xs now i = true) : Way v xs (now ++ [(i : Int)]) (m ||| maskB (nth xs i)) (i + 1) := by
  obtain ⟨h1, h2, h3, h4⟩ := h
  exact ⟨rises_snoc h1 hi (h4 ▸ hai), apart_snoc ha h1 h2 hi ok, by rw [h3, uni_snoc], (fromI_snoc _ _).symm⟩
theorem Way.ok {v : Int} {xs : List Blk} {now : List Int} {m a i : Nat} (ha : areB v xs) (h : Way v xs now m a) (hi : i < xs.length) (hai : a ≤ i) : okI xs now i = (maskB (nth xs i) &&& m == 0) := by
  obtain ⟨h1, h2, h3, h4⟩ := h
  rw [h3]; exact ok_iff ha h1 hi (h4 ▸ hai)
theorem Way.ones {v : Int} {xs : List Blk} {now : List Int} {m a : Nat} (ha : areB v xs) (hv : v ≤ 15) (h : Way v xs now m a) : onesF 15 m = 3 * now.length ∧ m < 32768 := by
  obtain ⟨h1, h2, h3, h4⟩ := h
  have hlt := uni_lt ha h1 now.length (Nat.le_refl _)
  have hp := pow15 hv
  refine ⟨?_, by rw [h3]; omega⟩
  rw [ones_cnt, h3, ← uni_cnt ha h1 h2 now.length (Nat.le_refl _)]
  have key : ∀ k, v.toNat + k ≤ 15 → cntF (fun j => (uni xs now now.length).testBit j) (v.toNat + k) = cntF (fun j => (uni xs now now.length).testBit j) v.toNat := by
    intro k
    induction k with
    | zero => intro _; rfl
    | succ k ih =>
      intro hk
      have : (uni xs now now.length).testBit (v.toNat + k) = false := Nat.testBit_lt_two_pow (Nat.lt_of_lt_of_le hlt (Nat.pow_le_pow_right (by omega) (by omega)))
      rw [← Nat.add_assoc, cntF, ih (by omega), this]; rfl
  have := key (15 - v.toNat) (by omega)
  have e : v.toNat + (15 - v.toNat) = 15 := by omega
  rwa [e] at this

end Go.Proofs.Ytbknpflbafjblaa

/- Plain laws of sets of points by their bits, and of closed sets. Conditions: none. -/
namespace Go.Proofs.Ytbknpflbafjblaa

/-- the points of the first k numbers of a list -/
def bitsL (ls : List Int) : Nat → Nat
  | 0 => 0
  | k + 1 => bitsL ls k ||| 2 ^ (nthI ls k).toNat
theorem bitsL_bit (ls : List Int) (j : Nat) : ∀ k, (bitsL ls k).testBit j = true ↔ ∃ i, i < k ∧ (nthI ls i).toNat = j := by
  intro k
  induction k with
  | zero => simp [bitsL]
  | succ k ih =>
    rw [bitsL, Nat.testBit_or, Bool.or_eq_true, ih, Nat.testBit_two_pow]
    simp only [decide_eq_true_eq]
    constructor
    · rintro (⟨i, h1, h2⟩ | h)
      · exact ⟨i, by omega, h2⟩
      · exact ⟨k, by omega, h⟩
    · rintro ⟨i, h1, h2⟩
      by_cases e : i = k
      · subst e; exact .inr h2
      · exact .inl ⟨i, by omega, h2⟩
theorem bitsL_lt {ls : List Int} {n : Nat} (h : ∀ k, k < ls.length → (nthI ls k).toNat < n) : ∀ k, k ≤ ls.length → bitsL ls k < 2 ^ n := by
  intro k
  induction k with
  | zero => intro _; simp [bitsL]; exact Nat.two_pow_pos n
  | succ k ih =>
    intro hk
    exact Nat.or_lt_two_pow (ih (by omega)) (Nat.pow_lt_pow_right (by omega) (h k (by omega)))
/-- is a set closed -/
def clS (xs : List Blk) (s : Nat) : Prop := ∀ p q : Nat, p < 15 → q < 15 → p ≠ q → s.testBit p = true → s.testBit q = true → third xs p q = -1 ∨ s.testBit (third xs p q).toNat = true
noncomputable def clB (xs : List Blk) (s : Nat) : Bool := open Classical in decide (clS xs s)
theorem clB_true {xs : List Blk} {s : Nat} (h : clS xs s) : clB xs s = true := by unfold clB; simpa using h
theorem clB_false {xs : List Blk} {s : Nat} (h : ¬ clS xs s) : clB xs s = false := by unfold clB; simpa using h
theorem clB_iff {xs : List Blk} {s : Nat} : clB xs s = true ↔ clS xs s := by unfold clB; simp

theorem cntF_at (a n : Nat) (f : Nat → Bool) : cntF (fun j => decide (j = a) && f j) n = if a < n ∧ f a = true then 1 else 0 := by
  induction n with
  | zero => simp [cntF]
  | succ n ih =>
    rw [cntF, ih]
    by_cases e : n = a
    · subst e
      cases h : f n <;> simp [h]
    · by_cases hl : a < n
      · have : a < n + 1 := by omega
        cases h : f a <;> simp [e, hl, h, this]
      · have : ¬ a < n + 1 := by omega
        simp [e, hl, this]
theorem cnt_blk {b : Blk} (hg : goodB 15 b = true) (s : Nat) : cntF (fun j => (maskB b &&& s).testBit j) 15 = (if s.testBit b.1.toNat = true then 1 else 0) + (if s.testBit b.2.1.toNat = true then 1 else 0) + (if s.testBit b.2.2.toNat = true then 1 else 0) := by
  have h := good_bd hg
  have e : ∀ j, (maskB b &&& s).testBit j = ((decide (j = b.1.toNat) && s.testBit j) || ((decide (j = b.2.1.toNat) && s.testBit j) || (decide (j = b.2.2.toNat) && s.testBit j))) := by
    intro j
    rw [Nat.testBit_and, maskB_bit hg]
    have : hasB b j = (decide (j = b.1.toNat) || (decide (j = b.2.1.toNat) || decide (j = b.2.2.toNat))) := by
      rw [Bool.eq_iff_iff, has_iff]; simp only [Bool.or_eq_true, decide_eq_true_eq]; omega
    rw [this]
    cases s.testBit j <;> simp
  rw [cntF_congr 15 (fun j _ => e j)]
  rw [cntF_or (f := fun j => decide (j = b.1.toNat) && s.testBit j) (g := fun j => (decide (j = b.2.1.toNat) && s.testBit j) || (decide (j = b.2.2.toNat) && s.testBit j)) 15 (fun j _ => ⟨rfl, ?_⟩)]
  · rw [cntF_or (f := fun j => decide (j = b.2.1.toNat) && s.testBit j) (g := fun j => decide (j = b.2.2.toNat) && s.testBit j) 15 (fun j _ => ⟨rfl, ?_⟩)]
    · have h1 : b.1.toNat < 15 := by omega
      have h2 : b.2.1.toNat < 15 := by omega
      have h3 : b.2.2.toNat < 15 := by omega
      rw [cntF_at, cntF_at, cntF_at]
      simp only [h1, h2, h3, true_and]
      omega
    · by_cases e1 : j = b.2.1.toNat
      · have : j ≠ b.2.2.toNat := by omega
        simp [this]
      · simp [e1]
  · by_cases e1 : j = b.1.toNat
    · have h1 : j ≠ b.2.1.toNat := by omega
      have h2 : j ≠ b.2.2.toNat := by omega
      simp [h1, h2]
    · simp [e1]
theorem third_of {v : Int} {xs : List Blk} (hs : isSys v xs) {i : Nat} (hi : i < xs.length) {p q : Int} (hne : p ≠ q) (h1 : hasB (nth xs i) p = true) (h2 : hasB (nth xs i) q = true) : third xs p q = sumB (nth xs i) - p - q := by
  have hg : ∀ j, j < xs.length → goodB 15 (nth xs j) = true := fun j hj => good_mono (hs.2.2.1 j hj).1 hs.1.2
  have hb : bothB (nth xs i) p q = true := by unfold bothB; rw [h1, h2]; rfl
  rcases first_of (P := fun j => bothB (nth xs j) p q) xs.length with h | ⟨k, k1, k2, k3⟩
  · rw [h i hi] at hb; cases hb
  · rw [third_at p q xs k k1 k2 k3]
    by_cases e : k = i
    · rw [e]
    · exfalso
      rcases Nat.lt_or_gt_of_ne e with hlt | hgt
      · have := hs.2.2.2 i hi k hlt
        have := com_two (hg i hi) (hg k k1) hne hb k2
        omega
      · have := hs.2.2.2 k k1 i hgt
        have := com_two (hg k k1) (hg i hi) hne k2 hb
        omega
theorem closed_iff {v : Int} {xs : List Blk} (hs : isSys v xs) (s : Nat) : clS xs s ↔ ∀ i, i < xs.length → cntF (fun j => (maskB (nth xs i) &&& s).testBit j) 15 ≠ 2 := by
  have hg : ∀ j, j < xs.length → goodB 15 (nth xs j) = true := fun j hj => good_mono (hs.2.2.1 j hj).1 hs.1.2
  constructor
  · intro h i hi
    have hb := good_bd (hg i hi)
    rw [cnt_blk (hg i hi)]
    obtain ⟨A, hA⟩ := Int.eq_ofNat_of_zero_le hb.1
    obtain ⟨B, hB⟩ := Int.eq_ofNat_of_zero_le (by omega : 0 ≤ (nth xs i).2.1)
    obtain ⟨C, hC⟩ := Int.eq_ofNat_of_zero_le (by omega : 0 ≤ (nth xs i).2.2)
    have a1 : hasB (nth xs i) A = true := has_iff.2 (.inl hA)
    have a2 : hasB (nth xs i) B = true := has_iff.2 (.inr (.inl hB))
    have a3 : hasB (nth xs i) C = true := has_iff.2 (.inr (.inr hC))
    have e12 := third_of hs hi (p := A) (q := B) (by omega) a1 a2
    have e13 := third_of hs hi (p := A) (q := C) (by omega) a1 a3
    have e23 := third_of hs hi (p := B) (q := C) (by omega) a2 a3
    unfold sumB at e12 e13 e23
    have f12 : third xs A B = C := by omega
    have f13 : third xs A C = B := by omega
    have f23 : third xs B C = A := by omega
    have k12 := h A B (by omega) (by omega) (by omega)
    have k13 := h A C (by omega) (by omega) (by omega)
    have k23 := h B C (by omega) (by omega) (by omega)
    rw [f12] at k12; rw [f13] at k13; rw [f23] at k23
    rw [hA, hB, hC]
    simp only [Int.toNat_natCast] at *
    have n1 : ¬ (C : Int) = -1 := by omega
    have n2 : ¬ (B : Int) = -1 := by omega
    have n3 : ¬ (A : Int) = -1 := by omega
    by_cases hx : s.testBit A = true <;> by_cases hy : s.testBit B = true <;> by_cases hz : s.testBit C = true
    all_goals first
      | (rw [if_pos hx, if_pos hy, if_pos hz]; decide)
      | exact absurd ((k12 hx hy).resolve_left n1) hz
      | exact absurd ((k13 hx hz).resolve_left n2) hy
      | exact absurd ((k23 hy hz).resolve_left n3) hx
      | (simp only [if_neg hx, if_neg hy, if_neg hz, if_pos]; omega)
      | (simp [hx, hy, hz])
  · intro h p q hp hq hne h1 h2
    rcases first_of (P := fun j => bothB (nth xs j) p q) xs.length with hn | ⟨i, k1, k2, k3⟩
    · exact .inl (third_none _ _ xs hn)
    · right
      have hc := h i k1
      rw [cnt_blk (hg i k1)] at hc
      have hb := good_bd (hg i k1)
      rw [third_at p q xs i k1 k2 k3]
      unfold bothB at k2
      simp only [Bool.and_eq_true] at k2
      obtain ⟨m1, m2⟩ := k2
      unfold sumB
      obtain ⟨A, hA⟩ := Int.eq_ofNat_of_zero_le hb.1
      obtain ⟨B, hB⟩ := Int.eq_ofNat_of_zero_le (by omega : 0 ≤ (nth xs i).2.1)
      obtain ⟨C, hC⟩ := Int.eq_ofNat_of_zero_le (by omega : 0 ≤ (nth xs i).2.2)
      rw [has_iff, hA, hB, hC] at m1 m2
      rw [hA, hB, hC] at hc ⊢
      simp only [Int.toNat_natCast] at *
      have key : ∀ x y z : Nat, s.testBit x = true → s.testBit y = true → ((if s.testBit x = true then 1 else 0) + (if s.testBit y = true then 1 else 0) + (if s.testBit z = true then 1 else 0) ≠ 2) → s.testBit z = true := by
        intro x y z hx hy hz
        cases hh : s.testBit z
        · rw [hx, hy, hh] at hz; simp at hz
        · rfl
      rcases m1 with e1 | e1 | e1 <;> rcases m2 with e2 | e2 | e2
      · omega
      · have : ((A : Int) + B + C - p - q).toNat = C := by omega
        rw [this]; exact key p q C h1 h2 (by have : p = A := by omega
                                             have : q = B := by omega
                                             subst_vars; exact hc)
      · have : ((A : Int) + B + C - p - q).toNat = B := by omega
        rw [this]; exact key p q B h1 h2 (by have : p = A := by omega
                                             have : q = C := by omega
                                             subst_vars; omega)
      · have : ((A : Int) + B + C - p - q).toNat = C := by omega
        rw [this]; exact key p q C h1 h2 (by have : p = B := by omega
                                             have : q = A := by omega
                                             subst_vars; omega)
      · omega
      · have : ((A : Int) + B + C - p - q).toNat = A := by omega
        rw [this]; exact key p q A h1 h2 (by have : p = B := by omega
                                             have : q = C := by omega
                                             subst_vars; omega)
      · have : ((A : Int) + B + C - p - q).toNat = B := by omega
        rw [this]; exact key p q B h1 h2 (by have : p = C := by omega
                                             have : q = A := by omega
                                             subst_vars; omega)
      · have : ((A : Int) + B + C - p - q).toNat = A := by omega
        rw [this]; exact key p q A h1 h2 (by have : p = C := by omega
                                             have : q = B := by omega
                                             subst_vars; omega)
      · omega
/-- s is the least closed set that has s0 -/
def spanP (xs : List Blk) (s0 s : Nat) : Prop := (∀ j, s0.testBit j = true → s.testBit j = true) ∧ s < 32768 ∧ clS xs s ∧ ∀ S, clS xs S → (∀ j, s0.testBit j = true → S.testBit j = true) → ∀ j, s.testBit j = true → S.testBit j = true
theorem span_uniq {xs : List Blk} {s0 s t : Nat} (h : spanP xs s0 s) (k : spanP xs s0 t) : s = t := by
  apply Nat.eq_of_testBit_eq
  intro j
  rw [Bool.eq_iff_iff]
  exact ⟨h.2.2.2 t k.2.2.1 k.1 j, k.2.2.2 s h.2.2.1 h.1 j⟩
theorem span_self {xs : List Blk} {s0 s : Nat} (h : spanP xs s0 s) : (s == s0) = clB xs s0 := by
  rw [Bool.eq_iff_iff, beq_iff_eq, clB_iff]
  constructor
  · rintro rfl; exact h.2.2.1
  · intro hc
    apply Nat.eq_of_testBit_eq
    intro j
    rw [Bool.eq_iff_iff]
    exact ⟨h.2.2.2 s0 hc (fun _ h => h) j, h.1 j⟩
theorem or_more {s c : Nat} (h : s.testBit c = false) : s < s ||| 2 ^ c := by
  have h1 : s ≤ s ||| 2 ^ c := Nat.left_le_or
  rcases Nat.lt_or_eq_of_le h1 with h2 | h2
  · exact h2
  · have := Nat.testBit_or s (2 ^ c) c
    rw [← h2, h, Nat.testBit_two_pow] at this
    simp at this
/-- the points of a set, in order, of the first k -/
def ptsN (s : Nat) : Nat → List Int
  | 0 => []
  | k + 1 => ptsN s k ++ (if s.testBit k = true then [(k : Int)] else [])
theorem ptsN_len (s k : Nat) : (ptsN s k).length ≤ k := by
  induction k with
  | zero => simp [ptsN]
  | succ k ih => rw [ptsN, List.length_append]; split <;> simp <;> omega
theorem ptsN_mem (s : Nat) : ∀ k (x : Int), x ∈ ptsN s k ↔ ∃ p : Nat, x = p ∧ p < k ∧ s.testBit p = true := by
  intro k
  induction k with
  | zero => intro x; simp [ptsN]
  | succ k ih =>
    intro x
    rw [ptsN, List.mem_append, ih]
    constructor
    · rintro (⟨p, h1, h2, h3⟩ | h)
      · exact ⟨p, h1, by omega, h3⟩
      · split at h
        · rename_i hb; simp at h; exact ⟨k, h, by omega, hb⟩
        · simp at h
    · rintro ⟨p, h1, h2, h3⟩
      by_cases e : p = k
      · subst e; right; rw [if_pos h3]; simp [h1]
      · exact .inl ⟨p, h1, by omega, h3⟩

end Go.Proofs.Ytbknpflbafjblaa

/- Contracts of sets of points by their bits and of closed sets; conditions: stated in each. -/
namespace Go.Proofs.Ytbknpflbafjblaa
open Go.RowKit
set_option maxHeartbeats 400000
set_option maxRecDepth 100000
set_option linter.unusedSimpArgs false
set_option linter.unusedVariables false

theorem wrap_u64_nat (a : Nat) (ha : a < 4611686018427387904) : IntKind.u64.wrap (a : Int) = a := by
  simp [IntKind.wrap, IntKind.bits, IntKind.signed]; omega
theorem bits_and_u (a b : Nat) (ha : a < 4611686018427387904) (hb : b < 4611686018427387904) : bits .and .u64 (a : Int) (b : Int) = ((a &&& b : Nat) : Int) := by
  have hx : a &&& b < 4611686018427387904 := Nat.lt_of_le_of_lt Nat.and_le_left ha
  show IntKind.u64.wrap ((BitVec.ofInt 64 (a : Int) &&& BitVec.ofInt 64 (b : Int)).toNat : Int) = _
  rw [BitVec.toNat_and, ofInt64_nat a ha, ofInt64_nat b hb, wrap_u64_nat _ hx]
theorem bits_or_u (a b : Nat) (ha : a < 4611686018427387904) (hb : b < 4611686018427387904) : bits .or .u64 (a : Int) (b : Int) = ((a ||| b : Nat) : Int) := by
  have hx : a ||| b < 2 ^ 62 := Nat.or_lt_two_pow (by simpa using ha) (by simpa using hb)
  show IntKind.u64.wrap ((BitVec.ofInt 64 (a : Int) ||| BitVec.ofInt 64 (b : Int)).toNat : Int) = _
  rw [BitVec.toNat_or, ofInt64_nat a ha, ofInt64_nat b hb, wrap_u64_nat _ (by simpa using hx)]

theorem setOf_any (B : Option Addr) (d : Nat) (ls : List Int) (w : World) (hB : Il w B ls) (hlb : ls.length ≤ 1048576) (hr : ∀ k, k < ls.length → 0 ≤ nthI ls k ∧ nthI ls k < 15) :
    Calls Try.prog 70 #[.slice B ls.length d] w fun e w' => e = .returned (.int .u64 (bitsL ls ls.length : Nat)) ∧ Below w.heap.size w w' := by
  have HB := Lib.hid hB; have HRG := Lib.hid hr; clear hB hr
  go_enter Try.func70, Try.ntmps70
  go_wp2
  go_loopw [3, 8] (fun q i wr => ∃ k m : Nat, k ≤ ls.length ∧ m < 32768 ∧ i = .int .i64 k ∧ q = .int .u64 m ∧ Hid (Below w.heap.size w wr ∧ m = bitsL ls k)) (fun _ i _ => ls.length - (intOf i).toNat)
  case atStart => exact ⟨0, 0, by omega, by omega, rfl, rfl, Below.refl _ _, rfl⟩
  case round =>
    obtain ⟨k, m, hk, hm, rfl, rfl, HC⟩ := hrel
    by_cases hlt : k < ls.length
    · obtain ⟨b1, o1, hA1, hb1, p0⟩ := (HB.out.below HC.out.1).at_ hlt
      subst hA1
      obtain ⟨p, hp⟩ := Int.eq_ofNat_of_zero_le (HRG.out k hlt).1
      have hp15 : p < 15 := by have := (HRG.out k hlt).2; omega
      rw [hp] at p0
      have HN : Hid (bitsL ls (k + 1) = bitsL ls k ||| 2 ^ p) := by unfold Hid; rw [bitsL, hp]; rfl
      have h2p : 2 ^ p < 32768 := by have : 2 ^ p < 2 ^ 15 := Nat.pow_lt_pow_right (by omega) hp15; simpa using this
      have hor := bits_or_u m (2 ^ p) (by omega) (by omega)
      have hmx : m ||| 2 ^ p < 32768 := by
        have : m ||| 2 ^ p < 2 ^ 15 := Nat.or_lt_two_pow (by simpa using hm) (by simpa using h2p)
        simpa using this
      have HW2 : Hid (bits .or .u64 (m : Int) (IntKind.u64.wrap ((2 : Int) ^ p)) = ((m ||| 2 ^ p : Nat) : Int)) := by
        have e : IntKind.u64.wrap ((2 : Int) ^ p) = ((2 ^ p : Nat) : Int) := by have : ((2 : Int) ^ p) = ((2 ^ p : Nat) : Int) := by push_cast; rfl
                                                                                rw [this]; exact wrap_u64_nat (2 ^ p) (by omega)
        unfold Hid; rw [e]; exact hor
      clear hp hor
      go_wp2
      go_roundw
      case rel => exact ⟨k + 1, m ||| 2 ^ p, by omega, hmx, by go_num, val_int HW2.out, HC.out.1, by rw [HN.out, HC.out.2]⟩
      case measure => simp [intOf]; omega
    · obtain rfl : k = ls.length := by omega
      go_wp2
      go_ret
      exact ⟨ret_int (by rw [HC.out.2]), HC.out.1⟩

theorem setHas_any (s p : Nat) (w : World) (hs : s < 32768) (hp : p < 15) :
    Calls Try.prog 164 #[.int .u64 (s : Int), .int .i64 (p : Int)] w fun e w' => e = .returned (.bool (s.testBit p)) ∧ w = w' := by
  go_enter Try.func164, Try.ntmps164
  go_wp2
  go_ret
  refine ⟨ret_bool ?_, rfl⟩
  have e1 : (s : Int) / 2 ^ p = ((s / 2 ^ p : Nat) : Int) := by push_cast; rfl
  have hd : s / 2 ^ p < 4611686018427387904 := Nat.lt_of_le_of_lt (Nat.div_le_self _ _) (by omega)
  have e2 := bits_and_u (s / 2 ^ p) 1 hd (by omega)
  rw [e1]
  show (bits BinOp.and IntKind.u64 ((s / 2 ^ p : Nat) : Int) ((1 : Nat) : Int) == 1) = _
  rw [e2, Nat.and_one_is_mod, Nat.testBit_eq_decide_div_mod_eq]
  rw [Bool.eq_iff_iff, beq_iff_eq, decide_eq_true_eq]
  omega

/-- the points of a set, in order -/
theorem setList_any (s : Nat) (w : World) (hs : s < 32768) :
    Calls Try.prog 134 #[.int .u64 (s : Int)] w fun e w' => ∃ u, e = .returned u ∧ Ro w' w.heap.size u (ptsN s 15) ∧ Below w.heap.size w w' := by
  obtain ⟨ni0, hni, hni0, hni1, hni2⟩ := info_parts infoInt'
  go_enter Try.func134, Try.ntmps134
  go_wp2
  go_loopw [3, 5] (fun u i wr => ∃ k : Nat, k ≤ 15 ∧ i = .int .i64 k ∧ Hid (Below w.heap.size w wr ∧ Ro wr w.heap.size u (ptsN s k))) (fun _ i _ => 15 - (intOf i).toNat)
  case atStart => exact ⟨0, by omega, rfl, Below.refl _ _, World.ownsRow_nil _ _ _ _⟩
  case round =>
    obtain ⟨k, hk, rfl, HC⟩ := hrel
    have HN : Hid (ptsN s (k + 1) = ptsN s k ++ (if s.testBit k = true then [(k : Int)] else [])) := rfl
    have hll := ptsN_len s k
    by_cases hlt : k < 15
    · go_wp2_with fail
      refine (setHas_any s k _ hs hlt).mono ?_
      cases hb : s.testBit k
      · rintro e w' ⟨rfl, rfl⟩
        go_wp2
        go_roundw
        case rel => exact ⟨k + 1, by omega, by go_num, HC.out.1, by rw [HN.out, hb, if_neg (by simp), List.append_nil]; exact HC.out.2⟩
        case measure => simp [intOf]; omega
      · rintro e w' ⟨rfl, rfl⟩
        have HB2 := Lib.hid HC.out.1
        have HO : Hid (wr.ownsRow w.heap.size 2 1 u3 (ptsN s k).length ((ptsN s k).map (Value.int .i64))) := HC.out.2
        have hbw_ := HB2.out.size; go_wp2_with (at_builtin; refine wpList_append_own _ rfl _ _ 42 rfl (w).heap.size 2 ni0 (.int .i64 0) 1 8 Try.underlying42 hni hni0 hni1 hni2 rfl (by decide) _ _ _ rfl (HO.out.alloc _) ⟨(wr).heap.size, 0, none⟩ 1 1 [.int .i64 (k)] rfl rfl (cells_new _ _ _) (by simp [Value.oneCell']) (by unfold maxLen; omega) (by omega) (by simp; omega) ?_; intro v2 w2 hown2 hg2 _); have HO2 := Lib.hid hown2; have HB3 : Hid (Below (w).heap.size (w) w2) := (HB2.out.alloc HB2.out.size _).grown hg2 (by simp; omega) (own_block HO.out); clear hown2 hg2 hbw_
        go_wp2
        go_roundw
        case rel => exact ⟨k + 1, by omega, by go_num, HB3.out, by rw [HN.out, if_pos hb]; have h2 := HO2.out; unfold Ro; simpa using h2⟩
        case measure => simp [intOf]; omega
    · obtain rfl : k = 15 := by omega
      go_wp2
      go_ret
      exact ⟨_, rfl, HC.out.2, HC.out.1⟩

end Go.Proofs.Ytbknpflbafjblaa

/- Contracts of the number of the points of a set; conditions: stated in each. -/
namespace Go.Proofs.Ytbknpflbafjblaa
open Go.RowKit
set_option maxHeartbeats 1000000
set_option maxRecDepth 100000
set_option linter.unusedSimpArgs false
set_option linter.unusedVariables false

theorem bits_and_w (a b : Nat) (ha : a < 4611686018427387904) (hb : b < 18446744073709551616) : bits .and .u64 (a : Int) (b : Int) = ((a &&& b : Nat) : Int) := by
  have hx : a &&& b < 4611686018427387904 := Nat.lt_of_le_of_lt Nat.and_le_left ha
  have e : (BitVec.ofInt 64 (b : Int)).toNat = b := by rw [BitVec.toNat_ofInt]; omega
  show IntKind.u64.wrap ((BitVec.ofInt 64 (a : Int) &&& BitVec.ofInt 64 (b : Int)).toNat : Int) = _
  rw [BitVec.toNat_and, ofInt64_nat a ha, e, wrap_u64_nat _ hx]
/-- what the library computes of a number below 2^15 -/
def pc1 (s : Nat) : Nat := (s / 2 &&& 6148914691236517205) + (s &&& 6148914691236517205)
def pc2 (s : Nat) : Nat := (s / 4 &&& 3689348814741910323) + (s &&& 3689348814741910323)
def pc3 (s : Nat) : Nat := (s / 16 + s) &&& 1085102592571150095
def pcS (k s : Nat) : Nat := s + s / 2 ^ k
def pcN (s : Nat) : Nat := pcS 32 (pcS 16 (pcS 8 (pc3 (pc2 (pc1 s))))) &&& 127
theorem pcN_all : ∀ a : Fin 128, ∀ b : Fin 256, pcN (a.val * 256 + b.val) = onesF 15 (a.val * 256 + b.val) := by decide +kernel
theorem pcN_ones {s : Nat} (h : s < 32768) : pcN s = onesF 15 s := by
  have := pcN_all ⟨s / 256, by omega⟩ ⟨s % 256, by omega⟩
  simp only at this
  have e : s / 256 * 256 + s % 256 = s := by omega
  rwa [e] at this

theorem pw1 {s : Nat} (h : s < 1073741824) : IntKind.u64.wrap (bits BinOp.and IntKind.u64 ((s : Int) / 2) 6148914691236517205 + bits BinOp.and IntKind.u64 (s : Int) 6148914691236517205) = ((pc1 s : Nat) : Int) ∧ pc1 s ≤ 2 * s := by
  have h1 : s / 2 &&& 6148914691236517205 ≤ s / 2 := Nat.and_le_left
  have h2 : s &&& 6148914691236517205 ≤ s := Nat.and_le_left
  have e1 := bits_and_w (s / 2) 6148914691236517205 (by omega) (by omega)
  have e2 := bits_and_w s 6148914691236517205 (by omega) (by omega)
  have e : ((s : Int) / 2) = ((s / 2 : Nat) : Int) := by push_cast; rfl
  unfold pc1
  refine ⟨?_, by omega⟩
  rw [e]
  show IntKind.u64.wrap (bits BinOp.and IntKind.u64 ((s / 2 : Nat) : Int) ((6148914691236517205 : Nat) : Int) + bits BinOp.and IntKind.u64 (s : Int) ((6148914691236517205 : Nat) : Int)) = _
  rw [e1, e2, ← Int.natCast_add]
  exact wrap_u64_nat _ (by omega)
theorem pw2 {s : Nat} (h : s < 1073741824) : IntKind.u64.wrap (bits BinOp.and IntKind.u64 ((s : Int) / 4) 3689348814741910323 + bits BinOp.and IntKind.u64 (s : Int) 3689348814741910323) = ((pc2 s : Nat) : Int) ∧ pc2 s ≤ 2 * s := by
  have h1 : s / 4 &&& 3689348814741910323 ≤ s / 4 := Nat.and_le_left
  have h2 : s &&& 3689348814741910323 ≤ s := Nat.and_le_left
  have e1 := bits_and_w (s / 4) 3689348814741910323 (by omega) (by omega)
  have e2 := bits_and_w s 3689348814741910323 (by omega) (by omega)
  have e : ((s : Int) / 4) = ((s / 4 : Nat) : Int) := by push_cast; rfl
  unfold pc2
  refine ⟨?_, by omega⟩
  rw [e]
  show IntKind.u64.wrap (bits BinOp.and IntKind.u64 ((s / 4 : Nat) : Int) ((3689348814741910323 : Nat) : Int) + bits BinOp.and IntKind.u64 (s : Int) ((3689348814741910323 : Nat) : Int)) = _
  rw [e1, e2, ← Int.natCast_add]
  exact wrap_u64_nat _ (by omega)
theorem pw3 {s : Nat} (h : s < 1073741824) : bits BinOp.and IntKind.u64 (IntKind.u64.wrap ((s : Int) / 16 + (s : Int))) 1085102592571150095 = ((pc3 s : Nat) : Int) ∧ pc3 s ≤ 2 * s := by
  have e : (s : Int) / 16 + (s : Int) = ((s / 16 + s : Nat) : Int) := by push_cast; rfl
  have h1 : (s / 16 + s) &&& 1085102592571150095 ≤ s / 16 + s := Nat.and_le_left
  unfold pc3
  refine ⟨?_, by omega⟩
  rw [e, wrap_u64_nat _ (by omega)]
  exact bits_and_w (s / 16 + s) 1085102592571150095 (by omega) (by omega)
theorem pw4 {s : Nat} (h : s < 1073741824) (k : Nat) (m : Int) (hm : m = ((2 ^ k : Nat) : Int)) (hk : 1 ≤ k) : IntKind.u64.wrap ((s : Int) + (s : Int) / m) = ((pcS k s : Nat) : Int) ∧ pcS k s ≤ 2 * s := by
  subst hm
  have e : (s : Int) + (s : Int) / ((2 ^ k : Nat) : Int) = ((s + s / 2 ^ k : Nat) : Int) := by push_cast; rfl
  have h1 : s / 2 ^ k ≤ s := Nat.div_le_self _ _
  unfold pcS
  refine ⟨?_, by omega⟩
  rw [e]
  exact wrap_u64_nat _ (by omega)
theorem pw5 {s : Nat} (h : s < 4294967296) : bits BinOp.and IntKind.i64 (wrap64 (s : Int)) 127 = ((s &&& 127 : Nat) : Int) := by
  have e : wrap64 (s : Int) = (s : Int) := by go_unwrap
  rw [e]
  exact bits_and_nat s 127 (by omega) (by omega)

theorem ones64_any (s : Nat) (w : World) (hs : s < 32768) :
    Calls Try.prog 155 #[.int .u64 (s : Int)] w fun e w' => e = .returned (.int .i64 (onesF 15 s : Nat)) ∧ w = w' := by
  obtain ⟨e1, b1⟩ := pw1 (s := s) (by omega)
  obtain ⟨e2, b2⟩ := pw2 (s := pc1 s) (by omega)
  obtain ⟨e3, b3⟩ := pw3 (s := pc2 (pc1 s)) (by omega)
  obtain ⟨e4, b4⟩ := pw4 (s := pc3 (pc2 (pc1 s))) (by omega) 8 256 rfl (by omega)
  obtain ⟨e5, b5⟩ := pw4 (s := pcS 8 (pc3 (pc2 (pc1 s)))) (by omega) 16 65536 rfl (by omega)
  obtain ⟨e6, b6⟩ := pw4 (s := pcS 16 (pcS 8 (pc3 (pc2 (pc1 s))))) (by omega) 32 4294967296 rfl (by omega)
  have e7 := pw5 (s := pcS 32 (pcS 16 (pcS 8 (pc3 (pc2 (pc1 s)))))) (by omega)
  have HE : Hid (((pcS 32 (pcS 16 (pcS 8 (pc3 (pc2 (pc1 s))))) &&& 127 : Nat) : Int) = ((onesF 15 s : Nat) : Int)) := congrArg Int.ofNat (pcN_ones hs)
  have H := Lib.hid (And.intro e1 (And.intro e2 (And.intro e3 (And.intro e4 (And.intro e5 (And.intro e6 e7))))))
  clear e1 e2 e3 e4 e5 e6 e7 b1 b2 b3 b4 b5 b6
  go_enter Try.func155, Try.ntmps155
  go_wp2
  obtain ⟨e1, e2, e3, e4, e5, e6, e7⟩ := H.out
  simp only [e1, e2, e3, e4, e5, e6, e7, HE.out]
  go_ret
  exact ⟨rfl, rfl⟩
theorem setSize_any (s : Nat) (w : World) (hs : s < 32768) :
    Calls Try.prog 73 #[.int .u64 (s : Int)] w fun e w' => e = .returned (.int .i64 (onesF 15 s : Nat)) ∧ w = w' := by
  go_enter Try.func73, Try.ntmps73
  go_wp2_with fail
  have key : Calls Try.prog 120 #[.int .u64 (s : Int)] w fun e w' => e = .returned (.int .i64 (onesF 15 s : Nat)) ∧ w = w' := by
    go_enter Try.func120, Try.ntmps120
    go_wp2_with fail
    refine (ones64_any s _ hs).mono ?_
    rintro e w1 ⟨rfl, rfl⟩
    go_wp2
    go_ret
    exact ⟨rfl, rfl⟩
  refine key.mono ?_
  rintro e w1 ⟨rfl, rfl⟩
  go_wp2
  go_ret
  exact ⟨rfl, rfl⟩

end Go.Proofs.Ytbknpflbafjblaa

/- Plain laws of colourings: the first one by all colours is the first one by colours in order of use. Conditions: none. -/
namespace Go.Proofs.Ytbknpflbafjblaa

/-- are three colours of a block as told -/
def alwB (st : Bool) (p q r : Int) : Bool := !(p == q && q == r) && (!st || p == q || q == r || p == r)
noncomputable def fitC (xs : List Blk) (st : Bool) (L : List Int) : Bool := open Classical in decide (∀ i, i < xs.length → (nth xs i).2.2 = (L.length : Int) - 1 → alwB st (nthI L (nth xs i).1.toNat) (nthI L (nth xs i).2.1.toNat) (nthI L (nth xs i).2.2.toNat) = true)
noncomputable def goodC (xs : List Blk) (st : Bool) (L : List Int) : Bool := open Classical in decide (∀ i, i < xs.length → (nth xs i).2.2 < (L.length : Int) → alwB st (nthI L (nth xs i).1.toNat) (nthI L (nth xs i).2.1.toNat) (nthI L (nth xs i).2.2.toNat) = true)
theorem fitC_iff {xs : List Blk} {st : Bool} {L : List Int} : fitC xs st L = true ↔ ∀ i, i < xs.length → (nth xs i).2.2 = (L.length : Int) - 1 → alwB st (nthI L (nth xs i).1.toNat) (nthI L (nth xs i).2.1.toNat) (nthI L (nth xs i).2.2.toNat) = true := by unfold fitC; simp
theorem goodC_iff {xs : List Blk} {st : Bool} {L : List Int} : goodC xs st L = true ↔ ∀ i, i < xs.length → (nth xs i).2.2 < (L.length : Int) → alwB st (nthI L (nth xs i).1.toNat) (nthI L (nth xs i).2.1.toNat) (nthI L (nth xs i).2.2.toNat) = true := by unfold goodC; simp
theorem goodC_snoc {xs : List Blk} {st : Bool} {L : List Int} {c : Int} (hg : ∀ i, i < xs.length → goodB 15 (nth xs i) = true) (h : goodC xs st L = true) : goodC xs st (L ++ [c]) = fitC xs st (L ++ [c]) := by
  rw [Bool.eq_iff_iff, goodC_iff, fitC_iff]
  rw [goodC_iff] at h
  constructor
  · intro h2 i hi he; exact h2 i hi (by omega)
  · intro h2 i hi he
    rw [List.length_append, List.length_singleton] at he
    have hb := good_bd (hg i hi)
    by_cases e : (nth xs i).2.2 = (L.length : Int)
    · exact h2 i hi (by rw [List.length_append, List.length_singleton]; omega)
    · rw [nthI_app (by omega), nthI_app (by omega), nthI_app (by omega)]
      exact h i hi (by omega)
/-- how many of the first i numbers are new ones -/
def newN (L : List Int) : Nat → Nat
  | 0 => 0
  | i + 1 => newN L i + (if nthI L i ∈ L.take i then 0 else 1)
def usedN (L : List Int) : Nat := newN L L.length
theorem newN_app (L : List Int) (c : Int) : ∀ i, i ≤ L.length → newN (L ++ [c]) i = newN L i := by
  intro i
  induction i with
  | zero => intro _; rfl
  | succ i ih => intro h; rw [newN, newN, ih (by omega), nthI_app (by omega), List.take_append_of_le_length (by omega)]
theorem usedN_snoc (L : List Int) (c : Int) : usedN (L ++ [c]) = usedN L + (if c ∈ L then 0 else 1) := by
  unfold usedN
  rw [List.length_append, List.length_singleton, newN, newN_app _ _ _ (Nat.le_refl _), List.take_append_of_le_length (Nat.le_refl _), List.take_length]
  have : nthI (L ++ [c]) L.length = c := by simp [nthI]
  rw [this]
theorem usedN_le (L : List Int) : usedN L ≤ L.length := by
  have : ∀ i, newN L i ≤ i := by
    intro i
    induction i with
    | zero => exact Nat.le_refl _
    | succ i ih => rw [newN]; split <;> omega
  exact this _
theorem nthI_map {σ : Int → Int} {L : List Int} {i : Nat} (h : i < L.length) : nthI (L.map σ) i = σ (nthI L i) := by simp [nthI, h]
theorem usedN_map {σ : Int → Int} (hi : ∀ x y, σ x = σ y → x = y) (L : List Int) : usedN (L.map σ) = usedN L := by
  unfold usedN
  rw [List.length_map]
  have : ∀ i, i ≤ L.length → newN (L.map σ) i = newN L i := by
    intro i
    induction i with
    | zero => intro _; rfl
    | succ i ih =>
      intro h
      rw [newN, newN, ih (by omega), nthI_map (by omega), ← List.map_take]
      have : σ (nthI L i) ∈ (L.take i).map σ ↔ nthI L i ∈ L.take i := by
        rw [List.mem_map]
        constructor
        · rintro ⟨a, h1, h2⟩; rw [← hi _ _ h2]; exact h1
        · intro h1; exact ⟨_, h1, rfl⟩
      simp only [this]
  exact this _ (Nat.le_refl _)
/-- the first thing there is, of n tries -/
def firstS {α : Type} (f : Nat → Option α) : Nat → Option α
  | 0 => none
  | n + 1 => match firstS f n with
    | some x => some x
    | none => f n
theorem firstS_none {α : Type} {f : Nat → Option α} : ∀ n, firstS f n = none ↔ ∀ i, i < n → f i = none := by
  intro n
  induction n with
  | zero => simp [firstS]
  | succ n ih =>
    rw [firstS]
    cases h : firstS f n with
    | some x =>
      simp only [reduceCtorEq, false_iff]
      intro h2
      rw [ih.2 fun i hi => h2 i (by omega)] at h; cases h
    | none =>
      have h3 := ih.1 h
      constructor
      · intro h2 i hi
        by_cases e : i = n
        · subst e; exact h2
        · exact h3 i (by omega)
      · intro h2; exact h2 n (by omega)
theorem firstS_stop {α : Type} {f : Nat → Option α} {x : α} {k : Nat} (h : firstS f k = some x) : ∀ n, k ≤ n → firstS f n = some x := by
  intro n
  induction n with
  | zero => intro hn; obtain rfl : k = 0 := by omega
            exact h
  | succ n ih =>
    intro hn
    by_cases e : k = n + 1
    · subst e; exact h
    · rw [firstS, ih (by omega)]
theorem firstS_go {α : Type} {f : Nat → Option α} {k : Nat} (h : firstS f k = none) : firstS f (k + 1) = f k := by rw [firstS, h]
theorem firstS_congr {α : Type} {f g : Nat → Option α} : ∀ n, (∀ i, i < n → f i = g i) → firstS f n = firstS g n := by
  intro n
  induction n with
  | zero => intro _; rfl
  | succ n ih => intro h; rw [firstS, firstS, ih (fun i hi => h i (by omega)), h n (by omega)]
/-- the first colouring that goes on from colours, by all colours -/
noncomputable def colF (xs : List Blk) (k : Nat) (st : Bool) : Nat → List Int → Option (List Int)
  | 0, L => if (st && decide (usedN L + 0 < k)) = true then none else some L
  | d + 1, L => if (st && decide (usedN L + (d + 1) < k)) = true then none else firstS (fun c => if fitC xs st (L ++ [(c : Int)]) = true then colF xs k st d (L ++ [(c : Int)]) else none) k
/-- .. by colours in order of use -/
noncomputable def canF (xs : List Blk) (k : Nat) (st : Bool) : Nat → List Int → Nat → Option (List Int)
  | 0, L, u => if (st && decide (u + 0 < k)) = true then none else some L
  | d + 1, L, u => if (st && decide (u + (d + 1) < k)) = true then none else firstS (fun c => if goodC xs st (L ++ [(c : Int)]) = true then canF xs k st d (L ++ [(c : Int)]) (max u (c + 1)) else none) (min k (u + 1))
theorem alw_map {σ : Int → Int} (hi : ∀ x y, σ x = σ y → x = y) (st : Bool) (p q r : Int) : alwB st (σ p) (σ q) (σ r) = alwB st p q r := by
  have h : ∀ x y, (σ x == σ y) = (x == y) := fun x y => by
    rw [Bool.eq_iff_iff, beq_iff_eq, beq_iff_eq]
    exact ⟨hi x y, fun e => by rw [e]⟩
  unfold alwB
  rw [h, h, h]
theorem fit_map {xs : List Blk} (hg : ∀ i, i < xs.length → goodB 15 (nth xs i) = true) {σ : Int → Int} (hi : ∀ x y, σ x = σ y → x = y) (st : Bool) (L : List Int) : fitC xs st (L.map σ) = fitC xs st L := by
  rw [Bool.eq_iff_iff, fitC_iff, fitC_iff]
  have key : ∀ i, i < xs.length → (nth xs i).2.2 = (L.length : Int) - 1 → alwB st (nthI (L.map σ) (nth xs i).1.toNat) (nthI (L.map σ) (nth xs i).2.1.toNat) (nthI (L.map σ) (nth xs i).2.2.toNat) = alwB st (nthI L (nth xs i).1.toNat) (nthI L (nth xs i).2.1.toNat) (nthI L (nth xs i).2.2.toNat) := by
    intro i hl he
    have hb := good_bd (hg i hl)
    rw [nthI_map (by omega), nthI_map (by omega), nthI_map (by omega), alw_map hi]
  rw [List.length_map]
  constructor
  · intro h i hl he; rw [← key i hl he]; exact h i hl he
  · intro h i hl he; rw [key i hl he]; exact h i hl he
theorem col_map {xs : List Blk} (hg : ∀ i, i < xs.length → goodB 15 (nth xs i) = true) {k : Nat} {st : Bool} {σ : Int → Int} (hv : ∀ x, σ (σ x) = x) (hr : ∀ c : Nat, c < k → ∃ d : Nat, d < k ∧ σ c = d) : ∀ d L, colF xs k st d (L.map σ) = none ↔ colF xs k st d L = none := by
  have hi : ∀ x y, σ x = σ y → x = y := fun x y e => by rw [← hv x, e, hv]
  intro d
  induction d with
  | zero =>
    intro L
    rw [colF, colF, usedN_map hi]
    split <;> simp
  | succ d ih =>
    intro L
    rw [colF, colF, usedN_map hi]
    split
    · simp
    · rw [firstS_none, firstS_none]
      have key : ∀ c : Nat, c < k → ∀ e : Nat, σ c = e → ((if fitC xs st (L.map σ ++ [(e : Int)]) = true then colF xs k st d (L.map σ ++ [(e : Int)]) else none) = none ↔ (if fitC xs st (L ++ [(c : Int)]) = true then colF xs k st d (L ++ [(c : Int)]) else none) = none) := by
        intro c hc e he
        have : L.map σ ++ [(e : Int)] = (L ++ [(c : Int)]).map σ := by rw [List.map_append, ← he]; rfl
        rw [this, fit_map hg hi]
        split
        · exact ih _
        · simp
      constructor
      · intro h c hc
        obtain ⟨e, he, h2⟩ := hr c hc
        exact (key c hc e h2).1 (h e he)
      · intro h e he
        obtain ⟨c, hc, h2⟩ := hr e he
        exact (key c hc e (by rw [← h2, hv])).2 (h c hc)
theorem can_eq {xs : List Blk} (hg : ∀ i, i < xs.length → goodB 15 (nth xs i) = true) {k : Nat} {st : Bool} : ∀ (d : Nat) (L : List Int) (u : Nat), (∀ c : Int, c ∈ L ↔ 0 ≤ c ∧ c < (u : Int)) → u ≤ k → usedN L = u → goodC xs st L = true → colF xs k st d L = canF xs k st d L u := by
  intro d
  induction d with
  | zero => intro L u hm hu hn hc; rw [colF, canF, hn]
  | succ d ih =>
    intro L u hm hu hn hc
    rw [colF, canF, hn]
    split
    · rfl
    · have hfg : ∀ c : Nat, c < k → c ≤ u → (if fitC xs st (L ++ [(c : Int)]) = true then colF xs k st d (L ++ [(c : Int)]) else none) = (if goodC xs st (L ++ [(c : Int)]) = true then canF xs k st d (L ++ [(c : Int)]) (max u (c + 1)) else none) := by
        intro c hck hcu
        rw [goodC_snoc hg hc]
        split
        · rename_i hf
          refine ih _ _ ?_ (by omega) ?_ (by rw [goodC_snoc hg hc]; exact hf)
          · intro x
            rw [List.mem_append, List.mem_singleton, hm]
            omega
          · rw [usedN_snoc, hn]
            by_cases e : (c : Int) ∈ L
            · rw [if_pos e]; rw [hm] at e; omega
            · rw [if_neg e]; rw [hm] at e; omega
        · rfl
      by_cases hk : k ≤ u + 1
      · rw [Nat.min_eq_left hk]
        exact firstS_congr k fun c hck => hfg c hck (by omega)
      · rw [Nat.min_eq_right (by omega)]
        rw [← firstS_congr (u + 1) fun c hcu => hfg c (by omega) (by omega)]
        generalize hF : (fun c : Nat => if fitC xs st (L ++ [(c : Int)]) = true then colF xs k st d (L ++ [(c : Int)]) else none) = F
        cases h1 : firstS F (u + 1) with
        | some x => exact firstS_stop h1 k (by omega)
        | none =>
          rw [firstS_none] at h1 ⊢
          intro c hck
          by_cases hcu : c < u + 1
          · exact h1 c hcu
          · have h2 := h1 u (by omega)
            rw [← hF] at h2 ⊢
            simp only at h2 ⊢
            have hσ : ∃ σ : Int → Int, (∀ x, σ (σ x) = x) ∧ (∀ e : Nat, e < k → ∃ d : Nat, d < k ∧ σ e = d) ∧ (L ++ [(u : Int)]).map σ = L ++ [(c : Int)] := by
              refine ⟨fun x => if x = u then c else if x = c then u else x, fun x => ?_, fun e he => ?_, ?_⟩
              · simp only
                by_cases e1 : x = u
                · rw [if_pos e1]
                  by_cases e2 : (c : Int) = u
                  · rw [if_pos e2]; omega
                  · rw [if_neg e2, if_pos rfl]; omega
                · rw [if_neg e1]
                  by_cases e2 : x = c
                  · rw [if_pos e2, if_pos rfl]; omega
                  · rw [if_neg e2, if_neg e1, if_neg e2]
              · simp only
                by_cases e1 : (e : Int) = u
                · exact ⟨c, hck, by rw [if_pos e1]⟩
                · by_cases e2 : (e : Int) = c
                  · exact ⟨u, by omega, by rw [if_neg e1, if_pos e2]⟩
                  · exact ⟨e, he, by rw [if_neg e1, if_neg e2]⟩
              · rw [List.map_append]
                congr 1
                · conv => rhs; rw [← List.map_id L]
                  refine List.map_congr_left fun x hx => ?_
                  have := (hm x).1 hx
                  rw [if_neg (by omega), if_neg (by omega)]; rfl
                · simp
            obtain ⟨σ, s1, s2, s3⟩ := hσ
            have hi : ∀ x y, σ x = σ y → x = y := fun x y e => by rw [← s1 x, e, s1]
            rw [← s3, fit_map hg hi]
            split
            · rename_i hf
              rw [if_pos hf] at h2
              exact (col_map hg s1 s2 d _).2 h2
            · rfl
theorem col_can {xs : List Blk} (hg : ∀ i, i < xs.length → goodB 15 (nth xs i) = true) (k : Nat) (st : Bool) (d : Nat) : colF xs k st d [] = canF xs k st d [] 0 := by
  refine can_eq hg d [] 0 (fun c => ?_) (by omega) rfl (goodC_iff.2 fun i hi h => ?_)
  · simp <;> omega
  · have hb := good_bd (hg i hi)
    simp at h; omega
theorem col_len {xs : List Blk} {k : Nat} {st : Bool} : ∀ d L M, colF xs k st d L = some M → M.length = L.length + d := by
  intro d
  induction d with
  | zero =>
    intro L M h
    rw [colF] at h
    split at h
    · cases h
    · simp only [Option.some.injEq] at h; subst h; rfl
  | succ d ih =>
    intro L M h
    rw [colF] at h
    split at h
    · cases h
    · have key : ∀ n, firstS (fun c : Nat => if fitC xs st (L ++ [(c : Int)]) = true then colF xs k st d (L ++ [(c : Int)]) else none) n = some M → M.length = L.length + (d + 1) := by
        intro n
        induction n with
        | zero => intro h; cases h
        | succ n ihn =>
          intro h
          rw [firstS] at h
          split at h
          · rename_i x hx; exact ihn (by rw [hx]; exact h)
          · split at h
            · have := ih _ _ h
              rw [List.length_append, List.length_singleton] at this; omega
            · cases h
      exact key k h

end Go.Proofs.Ytbknpflbafjblaa

/- Contracts of colourings, of the reference and of the program; conditions: stated in each. -/
namespace Go.Proofs.Ytbknpflbafjblaa
open Go.RowKit
set_option maxHeartbeats 1000000
set_option maxRecDepth 100000
set_option linter.unusedSimpArgs false
set_option linter.unusedVariables false

theorem isAllowed_any (p q r : Int) (st : Bool) (w : World) :
    Calls Try.prog 157 #[.int .i64 p, .int .i64 q, .int .i64 r, .bool st] w fun e w' => e = .returned (.bool (alwB st p q r)) ∧ w = w' := by
  have HE : Hid (alwB st p q r = (!(p == q && q == r) && (!st || p == q || q == r || p == r))) := rfl
  generalize alwB st p q r = R at *
  cases h1 : (p == q) <;> cases h2 : (q == r) <;> cases h3 : (p == r) <;> cases st
  all_goals
    rw [h1, h2, h3] at HE
    go_enter Try.func157, Try.ntmps157
    go_wp2
    go_ret
    exact ⟨ret_bool HE.out.symm, rfl⟩

theorem fitsLast_any (v : Int) (A : Option Addr) (c : Nat) (xs : List Blk) (B : Option Addr) (d : Nat) (L : List Int) (st : Bool) (w : World) (hA : Bl w A xs) (hl : xs.length ≤ 1048576) (hg : ∀ i, i < xs.length → goodB 15 (nth xs i) = true) (hB : Il w B L) (hL0 : 0 < L.length) (hL15 : L.length ≤ 15) :
    Calls Try.prog 124 #[.agg #[.int .i64 v, .slice A xs.length c], .slice B L.length d, .bool st] w fun e w' => e = .returned (.bool (fitC xs st L)) ∧ Below w.heap.size w w' := by
  have HF := Lib.hid (fitC_iff (xs := xs) (st := st) (L := L))
  have HG := Lib.hid hg
  have HR := Lib.hid (Row.new w 30 #[.int .i64 v, .slice A xs.length c])
  have HW := Lib.hid (below_alloc w (.cells #[.int .i64 v, .slice A xs.length c] 30))
  have HA := Lib.hid (hA.below HW.out)
  have HB := Lib.hid (hB.below HW.out)
  clear hA hg hB
  generalize fitC xs st L = FC at *
  obtain ⟨n, hn⟩ : ∃ n, L.length = n + 1 := ⟨L.length - 1, by omega⟩
  have HN := Lib.hid hn
  rw [hn]
  have hn15 : n ≤ 14 := by omega
  clear hn hL0 hL15
  go_enter Try.func124, Try.ntmps124
  go_wp2
  generalize w.alloc (.cells #[.int .i64 v, .slice A xs.length c] 30) = W at *
  go_loopw [16] (fun i wr => ∃ k : Nat, k ≤ xs.length ∧ i = .int .i64 k ∧ Hid (Below W.heap.size W wr ∧ ∀ i, i < k → (nth xs i).2.2 = (L.length : Int) - 1 → alwB st (nthI L (nth xs i).1.toNat) (nthI L (nth xs i).2.1.toNat) (nthI L (nth xs i).2.2.toNat) = true)) (fun i _ => xs.length - (intOf i).toNat)
  case atStart => exact ⟨0, by omega, rfl, Below.refl _ _, fun i hi => by omega⟩
  case round =>
    obtain ⟨k, hk, rfl, HC⟩ := hrel
    by_cases hlt : k < xs.length
    · obtain ⟨b1, o1, hA1, hb1, p0, p1, p2⟩ := (HA.out.below HC.out.1).at_ hlt
      subst hA1
      have hbd := good_bd (HG.out k hlt)
      obtain ⟨P, hP⟩ := Int.eq_ofNat_of_zero_le (by omega : 0 ≤ (nth xs k).1)
      obtain ⟨Q, hQ⟩ := Int.eq_ofNat_of_zero_le (by omega : 0 ≤ (nth xs k).2.1)
      obtain ⟨R, hR⟩ := Int.eq_ofNat_of_zero_le (by omega : 0 ≤ (nth xs k).2.2)
      rw [hP] at p0; rw [hQ] at p1; rw [hR] at p2
      rw [hP, hQ, hR] at hbd
      have HPQ := Lib.hid (And.intro hP (And.intro hQ hR))
      clear hP hQ hR
      have hkl : (k : Int) < (xs.length : Int) := by omega
      by_cases hr : R = n
      · subst hr
        obtain ⟨b2, o2, hB1, hb2, q0⟩ := (HB.out.below HC.out.1).at_ (k := P) (by rw [HN.out]; omega)
        obtain ⟨b3, o3, hB2, hb3, q1⟩ := (HB.out.below HC.out.1).at_ (k := Q) (by rw [HN.out]; omega)
        obtain ⟨b4, o4, hB3, hb4, q2⟩ := (HB.out.below HC.out.1).at_ (k := R) (by rw [HN.out]; omega)
        subst hB1
        simp only [Option.some.injEq, Addr.mk.injEq] at hB2 hB3
        obtain ⟨rfl, rfl, -⟩ := hB2
        obtain ⟨rfl, rfl, -⟩ := hB3
        clear hb3 hb4
        cases hal : alwB st (nthI L P) (nthI L Q) (nthI L R)
        · go_wp2
          refine wp_region_ge_lit (by kernel_rfl) (by kernel_rfl) ?_; (repeat (go_big_quiet_step ((go_at_call 157; exact ge_call_same (hal ▸ isAllowed_any _ _ _ _ _))))); refine wpQuiet_nil ?_
          rintro w3 ⟨x, rfl⟩
          have HB3 := Lib.hid (below_up (HC.out.1.alloc (HC.out.1).size _) (ge_below (wr.alloc (Obj.cells #[Value.int IntKind.i64 P, Value.int IntKind.i64 Q, Value.int IntKind.i64 R] 99)) x))
          have HAL := Lib.hid hal
          clear hal
          go_wp2
          go_ret
          refine ⟨ret_bool ?_, below_up HW.out HB3.out⟩
          rw [Bool.eq_iff_iff, HF.out]
          refine ⟨fun h => (by cases h), fun h => ?_⟩
          have h2 := h k hlt (by rw [HPQ.out.2.2, HN.out]; omega)
          rw [HPQ.out.1, HPQ.out.2.1, HPQ.out.2.2] at h2
          simp only [Int.toNat_natCast] at h2
          rw [HAL.out] at h2; exact h2
        · go_wp2
          refine wp_region_ge_lit (by kernel_rfl) (by kernel_rfl) ?_; (repeat (go_big_quiet_step ((go_at_call 157; exact ge_call_same (hal ▸ isAllowed_any _ _ _ _ _))))); refine wpQuiet_nil ?_
          rintro w3 ⟨x, rfl⟩
          have HB3 := Lib.hid (below_up (HC.out.1.alloc (HC.out.1).size _) (ge_below (wr.alloc (Obj.cells #[Value.int IntKind.i64 P, Value.int IntKind.i64 Q, Value.int IntKind.i64 R] 99)) x))
          have HAL := Lib.hid hal
          clear hal
          go_wp2
          go_roundw
          case rel =>
            refine ⟨k + 1, by omega, by go_num, HB3.out, fun i hi he => ?_⟩
            by_cases e : i = k
            · subst e
              rw [HPQ.out.1, HPQ.out.2.1, HPQ.out.2.2]
              exact HAL.out
            · exact HC.out.2 i (by omega) he
          case measure => simp [intOf]; omega
      · have hr2 : ((R : Int) == (n : Int)) = false := by rw [beq_eq_false_iff_ne]; omega
        have HRN := Lib.hid hr
        clear hr
        go_wp2
        refine wp_region_ge_lit (by kernel_rfl) (by kernel_rfl) ?_; (repeat (go_big_quiet_step ((fail)))); refine wpQuiet_nil ?_
        rintro w3 ⟨x, rfl⟩
        have HB3 := Lib.hid (below_up (HC.out.1.alloc (HC.out.1).size _) (ge_below (wr.alloc (Obj.cells #[Value.int IntKind.i64 P, Value.int IntKind.i64 Q, Value.int IntKind.i64 R] 99)) x))
        go_wp2
        go_roundw
        case rel =>
          refine ⟨k + 1, by omega, by go_num, HB3.out, fun i hi he => ?_⟩
          by_cases e : i = k
          · subst e
            rw [HPQ.out.2.2, HN.out] at he
            have := HRN.out
            omega
          · exact HC.out.2 i (by omega) he
        case measure => simp [intOf]; omega
    · obtain rfl : k = xs.length := by omega
      go_wp2
      go_ret
      refine ⟨ret_bool ?_, below_up HW.out HC.out.1⟩
      rw [eq_comm, HF.out]
      exact HC.out.2

theorem alw_cases (st : Bool) (p q r : Int) : alwB st p q r = (!(p == q && q == r) && (!st || p == q || q == r || p == r)) := rfl
theorem l07Good_any (v : Int) (A : Option Addr) (c : Nat) (xs : List Blk) (B : Option Addr) (d : Nat) (L : List Int) (st : Bool) (w : World) (hA : Bl w A xs) (hl : xs.length ≤ 1048576) (hg : ∀ i, i < xs.length → goodB 15 (nth xs i) = true) (hB : Il w B L) (hL15 : L.length ≤ 15) :
    Calls Try.prog 156 #[.agg #[.int .i64 v, .slice A xs.length c], .slice B L.length d, .int .i64 L.length, .bool st] w fun e w' => e = .returned (.bool (goodC xs st L)) ∧ Below w.heap.size w w' := by
  have HF := Lib.hid (goodC_iff (xs := xs) (st := st) (L := L))
  have HG := Lib.hid hg
  have HR := Lib.hid (Row.new w 30 #[.int .i64 v, .slice A xs.length c])
  have HW := Lib.hid (below_alloc w (.cells #[.int .i64 v, .slice A xs.length c] 30))
  have HA := Lib.hid (hA.below HW.out)
  have HB := Lib.hid (hB.below HW.out)
  clear hA hg hB
  generalize goodC xs st L = FC at *
  obtain ⟨n, hn⟩ : ∃ n, L.length = n := ⟨_, rfl⟩
  have HN := Lib.hid hn
  rw [hn]
  have hn15 : n ≤ 15 := by omega
  clear hn hL15
  go_enter Try.func156, Try.ntmps156
  go_wp2
  generalize w.alloc (.cells #[.int .i64 v, .slice A xs.length c] 30) = W at *
  go_loopw [9] (fun i wr => ∃ k : Nat, k ≤ xs.length ∧ i = .int .i64 k ∧ Hid (Below W.heap.size W wr ∧ ∀ i, i < k → (nth xs i).2.2 < (L.length : Int) → alwB st (nthI L (nth xs i).1.toNat) (nthI L (nth xs i).2.1.toNat) (nthI L (nth xs i).2.2.toNat) = true)) (fun i _ => xs.length - (intOf i).toNat)
  case atStart => exact ⟨0, by omega, rfl, Below.refl _ _, fun i hi => by omega⟩
  case round =>
    obtain ⟨k, hk, rfl, HC⟩ := hrel
    obtain ⟨c0, c1⟩ := (HR.out.below HC.out.1).c2
    have hlr := (HR.out.below HC.out.1).lt
    by_cases hlt : k < xs.length
    · obtain ⟨b1, o1, hA1, hb1, p0, p1, p2⟩ := (HA.out.below HC.out.1).at_ hlt
      subst hA1
      have hbd := good_bd (HG.out k hlt)
      obtain ⟨P, hP⟩ := Int.eq_ofNat_of_zero_le (by omega : 0 ≤ (nth xs k).1)
      obtain ⟨Q, hQ⟩ := Int.eq_ofNat_of_zero_le (by omega : 0 ≤ (nth xs k).2.1)
      obtain ⟨R, hR⟩ := Int.eq_ofNat_of_zero_le (by omega : 0 ≤ (nth xs k).2.2)
      rw [hP] at p0; rw [hQ] at p1; rw [hR] at p2
      rw [hP, hQ, hR] at hbd
      have HPQ := Lib.hid (And.intro hP (And.intro hQ hR))
      clear hP hQ hR
      have hkl : (k : Int) < (xs.length : Int) := by omega
      have HB1 := Lib.hid (HC.out.1.alloc (HC.out.1).size (Obj.cells #[Value.int IntKind.i64 P, Value.int IntKind.i64 Q, Value.int IntKind.i64 R] 99))
      by_cases hr : R < n
      · obtain ⟨b2, o2, hB1, hb2, q0⟩ := (HB.out.below HC.out.1).at_ (k := P) (by rw [HN.out]; omega)
        obtain ⟨b3, o3, hB2, hb3, q1⟩ := (HB.out.below HC.out.1).at_ (k := Q) (by rw [HN.out]; omega)
        obtain ⟨b4, o4, hB3, hb4, q2⟩ := (HB.out.below HC.out.1).at_ (k := R) (by rw [HN.out]; omega)
        subst hB1
        simp only [Option.some.injEq, Addr.mk.injEq] at hB2 hB3
        obtain ⟨rfl, rfl, -⟩ := hB2
        obtain ⟨rfl, rfl, -⟩ := hB3
        clear hb3 hb4
        obtain ⟨p, hp⟩ : ∃ p, nthI L P = p := ⟨_, rfl⟩
        obtain ⟨q, hq⟩ : ∃ q, nthI L Q = q := ⟨_, rfl⟩
        obtain ⟨r, hrr⟩ : ∃ r, nthI L R = r := ⟨_, rfl⟩
        rw [hp] at q0; rw [hq] at q1; rw [hrr] at q2
        have HPR := Lib.hid (And.intro hp (And.intro hq hrr))
        clear hp hq hrr
        have HALL : Hid (alwB st p q r = true → ∀ i, i < k + 1 → (nth xs i).2.2 < (L.length : Int) → alwB st (nthI L (nth xs i).1.toNat) (nthI L (nth xs i).2.1.toNat) (nthI L (nth xs i).2.2.toNat) = true) := by
          intro h i hi he
          by_cases e : i = k
          · subst e
            rw [HPQ.out.1, HPQ.out.2.1, HPQ.out.2.2]
            simp only [Int.toNat_natCast]
            rw [HPR.out.1, HPR.out.2.1, HPR.out.2.2]
            exact h
          · exact HC.out.2 i (by omega) he
        have HNO : Hid (alwB st p q r = false → FC = false) := by
          intro h
          rw [← Bool.not_eq_true, HF.out]
          intro h2
          have h3 := h2 k hlt (by rw [HPQ.out.2.2, HN.out]; omega)
          rw [HPQ.out.1, HPQ.out.2.1, HPQ.out.2.2] at h3
          simp only [Int.toNat_natCast] at h3
          rw [HPR.out.1, HPR.out.2.1, HPR.out.2.2, h] at h3
          cases h3
        have HAW := Lib.hid (alw_cases st p q r)
        go_wp2
        go_quiet (fail)
        rename_i nq nn
        clear p0 p1 p2 q0 q1 q2 c0 c1
        have HBQ := Lib.hid (below_drewN HB1.out nq)
        cases h1 : (p == q) <;> cases h2 : (q == r) <;> cases h3 : (p == r) <;> cases st
        all_goals
          rw [h1, h2, h3] at HAW
          first
            | (have hal : alwB _ p q r = false := HAW.out
               have HRT := Lib.hid (HNO.out hal)
               clear hal
               have n1 : (p != q) = !(p == q) := rfl
               have n2 : (q != r) = !(q == r) := rfl
               have n3 : (p != r) = !(p == r) := rfl
               rw [h1] at n1; rw [h2] at n2; rw [h3] at n3
               simp only [Bool.not_true, Bool.not_false] at n1 n2 n3
               go_wp2
               go_ret
               exact ⟨ret_bool HRT.out.symm, below_up HW.out HBQ.out⟩)
            | (have hal : alwB _ p q r = true := HAW.out
               have HRT := Lib.hid (HALL.out hal)
               clear hal
               have n1 : (p != q) = !(p == q) := rfl
               have n2 : (q != r) = !(q == r) := rfl
               have n3 : (p != r) = !(p == r) := rfl
               rw [h1] at n1; rw [h2] at n2; rw [h3] at n3
               simp only [Bool.not_true, Bool.not_false] at n1 n2 n3
               go_wp2
               go_roundw
               case rel => exact ⟨k + 1, by omega, by go_num, HBQ.out, HRT.out⟩
               case measure => simp [intOf]; omega)
      · have HRN := Lib.hid hr
        have hr2 : (n : Int) ≤ (R : Int) := by omega
        clear hr
        go_wp2
        go_roundw
        case rel =>
          refine ⟨k + 1, by omega, by go_num, HB1.out, fun i hi he => ?_⟩
          by_cases e : i = k
          · subst e
            rw [HPQ.out.2.2, HN.out] at he
            have := HRN.out
            omega
          · exact HC.out.2 i (by omega) he
        case measure => simp [intOf]; omega
    · obtain rfl : k = xs.length := by omega
      go_wp2
      go_ret
      refine ⟨ret_bool ?_, below_up HW.out HC.out.1⟩
      rw [eq_comm, HF.out]
      exact HC.out.2
end Go.Proofs.Ytbknpflbafjblaa

/- Contracts of the searches for colourings, of the reference and of the program; conditions: stated in each. -/
namespace Go.Proofs.Ytbknpflbafjblaa
open Go.RowKit
set_option maxHeartbeats 1000000
set_option maxRecDepth 100000
set_option linter.unusedSimpArgs false
set_option linter.unusedVariables false

theorem ones_new {L : List Int} (hr : ∀ j, j < L.length → 0 ≤ nthI L j ∧ nthI L j < 15) : ∀ i, i ≤ L.length → onesF 15 (bitsL L i) = newN L i := by
  intro i
  induction i with
  | zero => intro _; simp [bitsL, newN, onesF_zero]
  | succ i ih =>
    intro hi
    have h := hr i (by omega)
    have hi2 := ih (by omega)
    have hp : (nthI L i).toNat < 15 := by omega
    rw [newN, bitsL, ← hi2]
    have hm : nthI L i ∈ L.take i ↔ (bitsL L i).testBit (nthI L i).toNat = true := by
      rw [bitsL_bit, List.mem_iff_getElem]
      constructor
      · rintro ⟨j, hj, e⟩
        rw [List.length_take] at hj
        refine ⟨j, by omega, ?_⟩
        rw [List.getElem_take] at e
        have : nthI L j = nthI L i := by rw [← e]; simp [nthI, show j < L.length by omega]
        rw [this]
      · rintro ⟨j, hj, e⟩
        have h2 := hr j (by omega)
        refine ⟨j, by rw [List.length_take]; omega, ?_⟩
        rw [List.getElem_take]
        have : nthI L j = nthI L i := by omega
        rw [← this]; simp [nthI, show j < L.length by omega]
    rw [ones_cnt, ones_cnt]
    by_cases e : nthI L i ∈ L.take i
    · rw [if_pos e, Nat.add_zero]
      have hb := hm.1 e
      refine cntF_congr 15 fun j _ => ?_
      rw [Nat.testBit_or, Nat.testBit_two_pow]
      by_cases ej : (nthI L i).toNat = j
      · rw [← ej, hb]; simp
      · simp [ej]
    · rw [if_neg e]
      have hb : (bitsL L i).testBit (nthI L i).toNat = false := by rw [← Bool.not_eq_true, ← hm]; exact e
      have h1 := cntF_at (nthI L i).toNat 15 (fun _ => true)
      rw [if_pos ⟨hp, rfl⟩] at h1
      rw [cntF_or (f := fun j => (bitsL L i).testBit j) (g := fun j => decide (j = (nthI L i).toNat) && true) 15 (fun j _ => ?_), h1]
      rw [Nat.testBit_or, Nat.testBit_two_pow]
      by_cases ej : j = (nthI L i).toNat
      · subst ej; rw [hb]; simp
      · have : ¬ (nthI L i).toNat = j := fun h => ej h.symm
        simp [ej, this]
theorem fitsLast_m (v : Int) (A : Option Addr) (c : Nat) (xs : List Blk) (B : Option Addr) (d m : Nat) (L : List Int) (st : Bool) (w : World) (hm : L.length = m) (hA : Bl w A xs) (hl : xs.length ≤ 1048576) (hg : ∀ i, i < xs.length → goodB 15 (nth xs i) = true) (hB : Il w B L) (hL0 : 0 < L.length) (hL15 : L.length ≤ 15) :
    Calls Try.prog 124 #[.agg #[.int .i64 v, .slice A xs.length c], .slice B m d, .bool st] w fun e w' => e = .returned (.bool (fitC xs st L)) ∧ Below w.heap.size w w' := by
  subst hm; exact fitsLast_any v A c xs B d L st w hA hl hg hB hL0 hL15
theorem l07Ahead_m (v : Int) (A : Option Addr) (c : Nat) (xs : List Blk) (B : Option Addr) (d m : Nat) (L : List Int) (st : Bool) (w : World) (hm : L.length = m) (hA : Bl w A xs) (hl : xs.length ≤ 1048576) (hg : ∀ i, i < xs.length → goodB 15 (nth xs i) = true) (hB : Il w B L) (hL15 : L.length ≤ 15) :
    Calls Try.prog 122 #[.agg #[.int .i64 v, .slice A xs.length c], .slice B m d, .bool st] w fun e w' => e = .returned (.bool (goodC xs st L)) ∧ Below w.heap.size w w' := by
  subst hm
  have HW := Lib.hid (below_alloc w (.cells #[.int .i64 v, .slice A xs.length c] 30))
  have HA := Lib.hid (hA.below HW.out)
  have HB := Lib.hid (hB.below HW.out)
  have HG := Lib.hid hg
  clear hA hB hg
  go_enter Try.func122, Try.ntmps122
  go_wp2_with fail
  refine (l07Good_any v A c xs B d L st _ HA.out hl HG.out HB.out hL15).mono ?_
  rintro e w1 ⟨rfl, hb⟩
  have HB1 := Lib.hid (below_up HW.out hb)
  clear hb
  go_wp2
  go_ret
  exact ⟨rfl, HB1.out⟩

/-- the call returned a list of its own, or none -/
def FO (w : World) (base : Nat) (o : Option (List Int)) (e : Ending) (w' : World) : Prop :=
  Below w.heap.size w w' ∧ ((∃ M r, o = some M ∧ e = .returned (.tuple #[r, .bool true]) ∧ Ro w' base r M) ∨ (o = none ∧ e = .returned (.tuple #[.slice none 0 0, .bool false])))
theorem FO.some {w w' : World} {base : Nat} {o : Option (List Int)} {M : List Int} {r : Value} (hb : Below w.heap.size w w') (h : o = some M) (hR : Ro w' base r M) : FO w base o (.returned (.tuple #[r, .bool true])) w' := ⟨hb, .inl ⟨M, r, h, rfl, hR⟩⟩
theorem FO.none {w w' : World} {base : Nat} {o : Option (List Int)} (hb : Below w.heap.size w w') (h : o = none) : FO w base o (.returned (.tuple #[.slice none 0 0, .bool false])) w' := ⟨hb, .inr ⟨h, rfl⟩⟩

theorem l07Find_any (n : Nat) (A : Option Addr) (c : Nat) (xs : List Blk) (hs : isSys n xs) (k : Nat) (hk : k ≤ 6) (st : Bool) : ∀ (d base : Nat) (L : List Int) (uL : Value) (u : Nat) (z : Int) (w : World), z = (u : Int) → L.length + d = n → u ≤ 15 → base ≤ w.heap.size → Bl w A xs → Ro w base uL L →
    Calls Try.prog 75 #[.agg #[.int .i64 n, .slice A xs.length c], .int .i64 k, uL, .int .i64 z, .bool st] w (FO w base (canF xs k st d L u)) := by
  intro d
  induction d with
  | zero =>
    intro base L uL u z w hz hd hu hb0 hA hL
    subst hz
    obtain ⟨An, cn, rfl⟩ := own_slice hL
    have hn := hs.1
    have HX := Lib.hid (below_alloc w (.cells #[.int .i64 n, .slice A xs.length c] 30))
    have HL := Lib.hid (hL.below HX.out)
    have hln : L.length = n := by omega
    rw [hln]
    clear hA hL hd
    by_cases hp : st = true ∧ u < k
    · obtain ⟨rfl, hp2⟩ := hp
      have HC : Hid (canF xs k true 0 L u = none) := by unfold Hid; rw [canF, if_pos (by simpa using hp2)]
      generalize canF xs k true 0 L u = CF at *
      go_enter Try.func75, Try.ntmps75
      go_wp2
      go_ret2
      exact FO.none HX.out HC.out
    · have HC : Hid (canF xs k st 0 L u = some L) := by
        unfold Hid; rw [canF, if_neg (by simpa using hp)]
      generalize canF xs k st 0 L u = CF at *
      cases st
      · go_enter Try.func75, Try.ntmps75
        go_wp2
        go_ret2
        exact FO.some HX.out HC.out (by have := HL.out; rwa [hln] at this)
      · have hp2 : ¬ u < k := fun h => hp ⟨rfl, h⟩
        go_enter Try.func75, Try.ntmps75
        go_wp2
        go_ret2
        exact FO.some HX.out HC.out (by have := HL.out; rwa [hln] at this)
  | succ d ih =>
    intro base L uL u z w hz hd hu hb0 hA hL
    subst hz
    have HIH := Lib.hid ih; clear ih
    obtain ⟨ni0, hni, hni0, hni1, hni2⟩ := info_parts infoInt'
    obtain ⟨An, cn, rfl⟩ := own_slice hL
    have hn := hs.1
    have hl := hs.2.1
    have HG : Hid (∀ i, i < xs.length → goodB 15 (nth xs i) = true) := fun i hi => good_mono (hs.2.2.1 i hi).1 hs.1.2
    have HX := Lib.hid (below_alloc w (.cells #[.int .i64 n, .slice A xs.length c] 30))
    have HR := Lib.hid (Row.box w 30 (.int .i64 n) (.slice A xs.length c))
    have HA := Lib.hid (hA.below HX.out)
    have HL := Lib.hid (hL.below HX.out)
    have HSZ : Hid ((w.alloc (.cells #[.int .i64 n, .slice A xs.length c] 30)).heap.size = w.heap.size + 1) := World.size_alloc _ _
    have HDN := Lib.hid hd
    have hln : L.length < n := by omega
    have hdd : (n : Int) - (L.length : Int) = (d + 1 : Nat) := by omega
    clear hA hL hs
    by_cases hp : st = true ∧ u + (d + 1) < k
    · obtain ⟨rfl, hp2⟩ := hp
      have HC : Hid (canF xs k true (d + 1) L u = none) := by unfold Hid; rw [canF, if_pos (by simpa using hp2)]
      generalize canF xs k true (d + 1) L u = CF at *
      have hp3 : (n : Int) - (L.length : Int) < (k : Int) - (u : Int) := by omega
      clear hd hdd
      go_enter Try.func75, Try.ntmps75
      go_wp2
      go_ret2
      exact FO.none HX.out HC.out
    · have HC : Hid (canF xs k st (d + 1) L u = firstS (fun c => if goodC xs st (L ++ [(c : Int)]) = true then canF xs k st d (L ++ [(c : Int)]) (max u (c + 1)) else none) (min k (u + 1))) := by
        unfold Hid; rw [canF, if_neg (by simpa using hp)]
      have hp3 : st = true → ¬ (n : Int) - (L.length : Int) < (k : Int) - (u : Int) := fun h h2 => hp ⟨h, by omega⟩
      generalize canF xs k st (d + 1) L u = CF at *
      have HGO : Hid (∀ c : Nat, firstS (fun c : Nat => if goodC xs st (L ++ [(c : Int)]) = true then canF xs k st d (L ++ [(c : Int)]) (max u (c + 1)) else none) c = none → (goodC xs st (L ++ [(c : Int)]) = false ∨ canF xs k st d (L ++ [(c : Int)]) (max u (c + 1)) = none) → firstS (fun c : Nat => if goodC xs st (L ++ [(c : Int)]) = true then canF xs k st d (L ++ [(c : Int)]) (max u (c + 1)) else none) (c + 1) = none) := by
        intro c h1 h2
        rw [firstS_go h1]
        rcases h2 with h2 | h2
        · rw [if_neg (by simp [h2])]
        · rw [h2]; simp
      have HST : Hid (∀ (c : Nat) M, firstS (fun c : Nat => if goodC xs st (L ++ [(c : Int)]) = true then canF xs k st d (L ++ [(c : Int)]) (max u (c + 1)) else none) c = none → c < min k (u + 1) → goodC xs st (L ++ [(c : Int)]) = true → canF xs k st d (L ++ [(c : Int)]) (max u (c + 1)) = some M → CF = some M) := by
        intro c M h1 h2 h3 h4
        rw [HC.out]
        refine firstS_stop (k := c + 1) ?_ _ (by omega)
        rw [firstS_go h1, if_pos h3, h4]
      have HF0 : Hid (firstS (fun c : Nat => if goodC xs st (L ++ [(c : Int)]) = true then canF xs k st d (L ++ [(c : Int)]) (max u (c + 1)) else none) 0 = none) := rfl
      generalize firstS (fun c : Nat => if goodC xs st (L ++ [(c : Int)]) = true then canF xs k st d (L ++ [(c : Int)]) (max u (c + 1)) else none) = FS at *
      have HP3 := Lib.hid hp3
      have key : Calls Try.prog 75 #[.agg #[.int .i64 n, .slice A xs.length c], .int .i64 k, .slice An L.length cn, .int .i64 u, .bool st] w (FO w base CF) := by
        cases st
        all_goals
          first | (have hp4 := HP3.out rfl; clear hp hp3 hd hdd) | clear hp hp3 hd hdd
          go_enter Try.func75, Try.ntmps75
          go_wp2
          try clear hp4
          generalize w.alloc (.cells #[.int .i64 n, .slice A xs.length c] 30) = W at *
          go_loopw [13] (fun i wr => ∃ q : Nat, q ≤ k ∧ q ≤ u + 1 ∧ i = .int .i64 q ∧ Hid (Below W.heap.size W wr ∧ FS q = none)) (fun i _ => k - (intOf i).toNat)
          case atStart => exact ⟨0, by omega, by omega, rfl, Below.refl _ _, HF0.out⟩
          case round =>
            obtain ⟨q, hq, hqu, rfl, HD⟩ := hrel
            have HRw := Lib.hid (HR.out.below HD.out.1)
            have HLw := Lib.hid (HL.out.below HD.out.1)
            have HBW : Hid (base ≤ wr.heap.size) := by have := HD.out.1.size; have := HSZ.out; unfold Hid; omega
            by_cases hlt : q < k
            · by_cases hlu : q ≤ u
              · go_wp2_with fail
                refine (l01Own_any _ base L _ HLw.out (by omega)).mono ?_
                rintro e w1 ⟨r, rfl, hr, hb⟩
                have HB1 := Lib.hid hb
                have HO : Hid (w1.ownsRow wr.heap.size 2 1 r L.length (L.map (Value.int .i64))) := hr
                clear hr hb
                have hbw_ := HB1.out.size; go_wp2_with (at_builtin; refine wpList_append_own _ rfl _ _ 42 rfl (wr).heap.size 2 ni0 (.int .i64 0) 1 8 Try.underlying42 hni hni0 hni1 hni2 rfl (by decide) _ _ _ rfl (HO.out.alloc _) ⟨(w1).heap.size, 0, none⟩ 1 1 [.int .i64 (q)] rfl rfl (cells_new _ _ _) (by simp [Value.oneCell']) (by unfold maxLen; omega) (by omega) (by simp; omega) ?_; intro v2 w2 hown2 hg2 _; have HO2 := Lib.hid hown2; have HB3 : Hid (Below (wr).heap.size (wr) w2) := (HB1.out.alloc HB1.out.size _).grown hg2 (by simp; omega) (own_block HO.out); obtain ⟨c0, c1⟩ := (HRw.out.below HB3.out).c2; have hlr := (HRw.out.below HB3.out).lt; clear hown2 hg2 hbw_)
                have HRN : Hid (Ro w2 wr.heap.size v2 (L ++ [(q : Int)])) := by unfold Hid Ro; rw [List.length_append, List.map_append]; exact HO2.out
                obtain ⟨B2, d2, rfl⟩ := own_slice HO2.out
                have HI2 := Lib.hid (Il.of_Ro HRN.out)
                have HB2 := Lib.hid (below_up HD.out.1 HB3.out)
                have hl1 : (L ++ [(q : Int)]).length = L.length + 1 := by simp
                have HL1 := Lib.hid hl1
                refine (l07Ahead_m n A c xs B2 d2 (L.length + 1) (L ++ [(q : Int)]) _ _ HL1.out (HA.out.below HB2.out) (by omega) HG.out HI2.out (by omega)).mono ?_
                rintro e w3 ⟨rfl, hb⟩
                have HB4 := Lib.hid (below_up HB2.out hb)
                have HRN3 := Lib.hid (own_base (HRN.out.below hb) HBW.out)
                have HBS := Lib.hid hb.size
                clear c0 c1 hb
                cases hgd : goodC xs _ (L ++ [(q : Int)])
                · have HN := Lib.hid (HGO.out q HD.out.2 (.inl hgd))
                  clear hgd hl1
                  go_wp2
                  go_roundw
                  case rel => exact ⟨q + 1, by omega, by omega, by go_num, HB4.out, HN.out⟩
                  case measure => simp [intOf]; omega
                · have HGD := Lib.hid hgd
                  clear hgd hl1
                  obtain ⟨c0, c1⟩ := (HR.out.below HB4.out).c2
                  have hlr4 := (HR.out.below HB4.out).lt
                  go_wp2_with fail
                  all_goals
                    refine (HIH.out base (L ++ [(q : Int)]) _ (max u (q + 1)) _ _ (by omega) (by rw [HL1.out]; have := HDN.out; omega) (by omega) (Nat.le_trans HBW.out (Nat.le_trans HB3.out.size HBS.out)) (HA.out.below HB4.out) HRN3.out).mono ?_
                    rintro e w5 ⟨hb, (⟨M, r5, hM, rfl, hr5⟩ | ⟨hM, rfl⟩)⟩
                    · have HFS := Lib.hid (HST.out q M HD.out.2 (by omega) HGD.out hM)
                      have HB5 := Lib.hid (below_up HX.out (below_up HB4.out hb))
                      have HR5 := Lib.hid hr5
                      clear hM hb hr5 c0 c1
                      go_wp2
                      go_ret2
                      exact FO.some HB5.out HFS.out HR5.out
                    · have HN := Lib.hid (HGO.out q HD.out.2 (.inr hM))
                      have HB5 := Lib.hid (below_up HB4.out hb)
                      clear hM hb c0 c1
                      go_wp2
                      go_roundw
                      case rel => exact ⟨q + 1, by omega, by omega, by go_num, HB5.out, HN.out⟩
                      case measure => simp [intOf]; omega
              · obtain rfl : q = u + 1 := by omega
                have HE : Hid (min k (u + 1) = u + 1) := by unfold Hid; omega
                go_wp2
                go_ret2
                exact FO.none (below_up HX.out HD.out.1) (by rw [HC.out, HE.out]; exact HD.out.2)
            · obtain rfl : q = k := by omega
              have HE : Hid (min q (u + 1) = q) := by unfold Hid; omega
              go_wp2
              go_ret2
              exact FO.none (below_up HX.out HD.out.1) (by rw [HC.out, HE.out]; exact HD.out.2)
      exact key

theorem colour_any (n : Nat) (A : Option Addr) (c : Nat) (xs : List Blk) (hs : isSys n xs) (k : Nat) (hk : k ≤ 6) (st : Bool) : ∀ (d base : Nat) (L : List Int) (uL : Value) (w : World), L.length + d = n → base ≤ w.heap.size → Bl w A xs → Ro w base uL L → (∀ j, j < L.length → 0 ≤ nthI L j ∧ nthI L j < 15) →
    Calls Try.prog 76 #[.agg #[.int .i64 n, .slice A xs.length c], .int .i64 k, uL, .bool st] w (FO w base (colF xs k st d L)) := by
  intro d
  induction d with
  | zero =>
    intro base L uL w hd hb0 hA hL hE
    have HON := Lib.hid (ones_new hE L.length (Nat.le_refl _))
    have H15 : Hid (bitsL L L.length < 32768) := by
      have := bitsL_lt (ls := L) (n := 15) (fun k hk => by have := hE k hk; omega) L.length (Nat.le_refl _)
      unfold Hid
      simpa using this
    have HEE := Lib.hid hE
    have hul := usedN_le L
    have HUE : Hid (newN L L.length = usedN L) := rfl
    generalize usedN L = u at *
    obtain ⟨An, cn, rfl⟩ := own_slice hL
    have hn := hs.1
    have HX := Lib.hid (below_alloc w (.cells #[.int .i64 n, .slice A xs.length c] 30))
    have HR := Lib.hid (Row.box w 30 (.int .i64 n) (.slice A xs.length c))
    have HL := Lib.hid (hL.below HX.out)
    have HI := Lib.hid (Il.of_Ro HL.out)
    have hll : L.length ≤ 15 := by omega
    have HLN : Hid (L.length = n) := by unfold Hid; omega
    clear hA hL hd hE
    have HCOL : Hid (colF xs k st 0 L = if (st && decide (u + 0 < k)) = true then none else some L) := by unfold Hid; rw [colF, ← HUE.out]; rfl
    generalize colF xs k st 0 L = CF at *
    go_enter Try.func76, Try.ntmps76
    go_wp2_with fail
    refine (setOf_any An cn L _ HI.out (by omega) HEE.out).mono ?_
    rintro e w1 ⟨rfl, hb⟩
    have HB1 := Lib.hid hb
    clear hb
    obtain ⟨c0, c1⟩ := (HR.out.below HB1.out).c2
    have hlr := (HR.out.below HB1.out).lt
    go_wp2_with fail
    refine (setSize_any _ _ H15.out).mono ?_
    rw [HON.out, HUE.out]
    rintro e w2 ⟨rfl, rfl⟩
    by_cases hp : st = true ∧ u < k
    · obtain ⟨rfl, hp2⟩ := hp
      have HC : Hid (CF = none) := by unfold Hid; rw [HCOL.out, if_pos (by simpa using hp2)]
      have hln := HLN.out
      go_wp2
      go_ret2
      exact FO.none (below_up HX.out HB1.out) HC.out
    · have HC : Hid (CF = some L) := by
        unfold Hid; rw [HCOL.out, if_neg (by simpa using hp)]
      have hln := HLN.out
      cases st
      · go_wp2
        go_ret2
        exact FO.some (below_up HX.out HB1.out) HC.out (by have := HL.out.below HB1.out; rwa [hln] at this)
      · have hp2 : ¬ u < k := fun h => hp ⟨rfl, h⟩
        go_wp2
        go_ret2
        exact FO.some (below_up HX.out HB1.out) HC.out (by have := HL.out.below HB1.out; rwa [hln] at this)
  | succ d ih =>
    intro base L uL w hd hb0 hA hL hE
    have HIH := Lib.hid ih; clear ih
    have HON := Lib.hid (ones_new hE L.length (Nat.le_refl _))
    have H15 : Hid (bitsL L L.length < 32768) := by
      have := bitsL_lt (ls := L) (n := 15) (fun k hk => by have := hE k hk; omega) L.length (Nat.le_refl _)
      unfold Hid
      simpa using this
    have HEE := Lib.hid hE
    have hul := usedN_le L
    have HUE : Hid (newN L L.length = usedN L) := rfl
    have HCOL : Hid (colF xs k st (d + 1) L = if (st && decide (usedN L + (d + 1) < k)) = true then none else firstS (fun c => if fitC xs st (L ++ [(c : Int)]) = true then colF xs k st d (L ++ [(c : Int)]) else none) k) := rfl
    generalize usedN L = u at *
    generalize colF xs k st (d + 1) L = CF at *
    obtain ⟨ni0, hni, hni0, hni1, hni2⟩ := info_parts infoInt'
    obtain ⟨An, cn, rfl⟩ := own_slice hL
    have hn := hs.1
    have hl := hs.2.1
    have HG : Hid (∀ i, i < xs.length → goodB 15 (nth xs i) = true) := fun i hi => good_mono (hs.2.2.1 i hi).1 hs.1.2
    have HX := Lib.hid (below_alloc w (.cells #[.int .i64 n, .slice A xs.length c] 30))
    have HR := Lib.hid (Row.box w 30 (.int .i64 n) (.slice A xs.length c))
    have HA := Lib.hid (hA.below HX.out)
    have HL := Lib.hid (hL.below HX.out)
    have HI := Lib.hid (Il.of_Ro HL.out)
    have HSZ : Hid ((w.alloc (.cells #[.int .i64 n, .slice A xs.length c] 30)).heap.size = w.heap.size + 1) := World.size_alloc _ _
    have HDN := Lib.hid hd
    have hln : L.length < n := by omega
    clear hA hL hs hE hd
    go_enter Try.func76, Try.ntmps76
    go_wp2_with fail
    refine (setOf_any An cn L _ HI.out (by omega) HEE.out).mono ?_
    rintro e w1 ⟨rfl, hb⟩
    have HB1 := Lib.hid hb
    clear hb
    obtain ⟨c0, c1⟩ := (HR.out.below HB1.out).c2
    have hlr := (HR.out.below HB1.out).lt
    go_wp2_with fail
    refine (setSize_any _ _ H15.out).mono ?_
    rw [HON.out, HUE.out]
    rintro e w2 ⟨rfl, rfl⟩
    by_cases hp : st = true ∧ u + (d + 1) < k
    · obtain ⟨rfl, hp2⟩ := hp
      have HC : Hid (CF = none) := by unfold Hid; rw [HCOL.out, if_pos (by simpa using hp2)]
      have hp3 : (n : Int) - (L.length : Int) < (k : Int) - (u : Int) := by have := HDN.out; omega
      go_wp2
      go_ret2
      exact FO.none (below_up HX.out HB1.out) HC.out
    · have HC : Hid (CF = firstS (fun c => if fitC xs st (L ++ [(c : Int)]) = true then colF xs k st d (L ++ [(c : Int)]) else none) k) := by
        unfold Hid; rw [HCOL.out, if_neg (by simpa using hp)]
      have hp3 : st = true → ¬ (n : Int) - (L.length : Int) < (k : Int) - (u : Int) := fun h h2 => hp ⟨h, by have := HDN.out; omega⟩
      clear HCOL
      have HGO : Hid (∀ c : Nat, firstS (fun c : Nat => if fitC xs st (L ++ [(c : Int)]) = true then colF xs k st d (L ++ [(c : Int)]) else none) c = none → (fitC xs st (L ++ [(c : Int)]) = false ∨ colF xs k st d (L ++ [(c : Int)]) = none) → firstS (fun c : Nat => if fitC xs st (L ++ [(c : Int)]) = true then colF xs k st d (L ++ [(c : Int)]) else none) (c + 1) = none) := by
        intro c h1 h2
        rw [firstS_go h1]
        rcases h2 with h2 | h2
        · rw [if_neg (by simp [h2])]
        · rw [h2]; simp
      have HST : Hid (∀ (c : Nat) M, firstS (fun c : Nat => if fitC xs st (L ++ [(c : Int)]) = true then colF xs k st d (L ++ [(c : Int)]) else none) c = none → c < k → fitC xs st (L ++ [(c : Int)]) = true → colF xs k st d (L ++ [(c : Int)]) = some M → CF = some M) := by
        intro c M h1 h2 h3 h4
        rw [HC.out]
        refine firstS_stop (k := c + 1) ?_ _ (by omega)
        rw [firstS_go h1, if_pos h3, h4]
      have HF0 : Hid (firstS (fun c : Nat => if fitC xs st (L ++ [(c : Int)]) = true then colF xs k st d (L ++ [(c : Int)]) else none) 0 = none) := rfl
      generalize firstS (fun c : Nat => if fitC xs st (L ++ [(c : Int)]) = true then colF xs k st d (L ++ [(c : Int)]) else none) = FS at *
      have HP3 := Lib.hid hp3
      generalize hW1 : w.alloc (.cells #[.int .i64 n, .slice A xs.length c] 30) = W at *
      have HXW := Lib.hid (below_up HX.out HB1.out)
      have HA1 := Lib.hid (HA.out.below HB1.out)
      have HL1 := Lib.hid (HL.out.below HB1.out)
      have HR1 := Lib.hid (HR.out.below HB1.out)
      have HSB : Hid (base ≤ w1.heap.size) := by have := HB1.out.size; have := HSZ.out; unfold Hid; omega
      cases st
      all_goals
        first | (have hp4 := HP3.out rfl; clear hp hp3) | clear hp hp3
        have hz : ((n : Int) - (L.length : Int) == 0) = false := by rw [beq_eq_false_iff_ne]; omega
        go_wp2
        try clear hp4
        clear c0 c1 hz
        go_loopw [36] (fun i wr => ∃ q : Nat, q ≤ k ∧ i = .int .i64 q ∧ Hid (Below w1.heap.size w1 wr ∧ FS q = none)) (fun i _ => k - (intOf i).toNat)
        case atStart => exact ⟨0, by omega, rfl, Below.refl _ _, HF0.out⟩
        case round =>
          obtain ⟨q, hq, rfl, HD⟩ := hrel
          have HRw := Lib.hid (HR1.out.below HD.out.1)
          have HLw := Lib.hid (HL1.out.below HD.out.1)
          have HBW : Hid (base ≤ wr.heap.size) := Nat.le_trans HSB.out HD.out.1.size
          by_cases hlt : q < k
          · go_wp2_with fail
            refine (clone_any _ base L _ HLw.out (by omega)).mono ?_
            rintro e w3 ⟨r, rfl, hr, hb⟩
            have HB3' := Lib.hid hb
            have HO : Hid (w3.ownsRow wr.heap.size 2 1 r L.length (L.map (Value.int .i64))) := hr
            clear hr hb
            have hbw_ := HB3'.out.size; go_wp2_with (at_builtin; refine wpList_append_own _ rfl _ _ 42 rfl (wr).heap.size 2 ni0 (.int .i64 0) 1 8 Try.underlying42 hni hni0 hni1 hni2 rfl (by decide) _ _ _ rfl (HO.out.alloc _) ⟨(w3).heap.size, 0, none⟩ 1 1 [.int .i64 (q)] rfl rfl (cells_new _ _ _) (by simp [Value.oneCell']) (by unfold maxLen; omega) (by omega) (by simp; omega) ?_; intro v2 w2 hown2 hg2 _; have HO2 := Lib.hid hown2; have HB3 : Hid (Below (wr).heap.size (wr) w2) := (HB3'.out.alloc HB3'.out.size _).grown hg2 (by simp; omega) (own_block HO.out); obtain ⟨c0, c1⟩ := (HRw.out.below HB3.out).c2; have hlr := (HRw.out.below HB3.out).lt; clear hown2 hg2 hbw_)
            have HRN : Hid (Ro w2 wr.heap.size v2 (L ++ [(q : Int)])) := by unfold Hid Ro; rw [List.length_append, List.map_append]; exact HO2.out
            obtain ⟨B2, d2, rfl⟩ := own_slice HO2.out
            have HI2 := Lib.hid (Il.of_Ro HRN.out)
            have HB2 := Lib.hid (below_up HD.out.1 HB3.out)
            have hl1 : (L ++ [(q : Int)]).length = L.length + 1 := by simp
            have HLN := Lib.hid hl1
            have HE1 : Hid (∀ j, j < (L ++ [(q : Int)]).length → 0 ≤ nthI (L ++ [(q : Int)]) j ∧ nthI (L ++ [(q : Int)]) j < 15) := by
              intro j hj
              by_cases e : j < L.length
              · rw [nthI_app e]; exact HEE.out j e
              · have e2 : j = L.length := by omega
                have : nthI (L ++ [(q : Int)]) L.length = q := by simp [nthI]
                rw [e2, this]; omega
            refine (fitsLast_m n A c xs B2 d2 (L.length + 1) (L ++ [(q : Int)]) _ _ HLN.out (HA1.out.below HB2.out) (by omega) HG.out HI2.out (by omega) (by omega)).mono ?_
            rintro e w4 ⟨rfl, hb⟩
            have HB4 := Lib.hid (below_up HB2.out hb)
            have HRN3 := Lib.hid (own_base (HRN.out.below hb) HBW.out)
            have HBS := Lib.hid hb.size
            clear c0 c1 hb
            cases hgd : fitC xs _ (L ++ [(q : Int)])
            · have HN := Lib.hid (HGO.out q HD.out.2 (.inl hgd))
              clear hgd hl1
              go_wp2
              go_roundw
              case rel => exact ⟨q + 1, by omega, by go_num, HB4.out, HN.out⟩
              case measure => simp [intOf]; omega
            · have HGD := Lib.hid hgd
              clear hgd hl1
              obtain ⟨c0, c1⟩ := (HR1.out.below HB4.out).c2
              have hlr4 := (HR1.out.below HB4.out).lt
              go_wp2_with fail
              refine (HIH.out base (L ++ [(q : Int)]) _ _ (by rw [HLN.out]; have := HDN.out; omega) (Nat.le_trans HBW.out (Nat.le_trans HB3.out.size HBS.out)) (HA1.out.below HB4.out) HRN3.out HE1.out).mono ?_
              rintro e w5 ⟨hb, (⟨M, r5, hM, rfl, hr5⟩ | ⟨hM, rfl⟩)⟩
              · have HFS := Lib.hid (HST.out q M HD.out.2 hlt HGD.out hM)
                have HB5 := Lib.hid (below_up HXW.out (below_up HB4.out hb))
                have HR5 := Lib.hid hr5
                clear hM hb hr5 c0 c1
                go_wp2
                go_ret2
                exact FO.some HB5.out HFS.out HR5.out
              · have HN := Lib.hid (HGO.out q HD.out.2 (.inr hM))
                have HB5 := Lib.hid (below_up HB4.out hb)
                clear hM hb c0 c1
                go_wp2
                go_roundw
                case rel => exact ⟨q + 1, by omega, by go_num, HB5.out, HN.out⟩
                case measure => simp [intOf]; omega
          · obtain rfl : q = k := by omega
            go_wp2
            go_ret2
            exact FO.none (below_up HXW.out HD.out.1) (by rw [HC.out]; exact HD.out.2)

end Go.Proofs.Ytbknpflbafjblaa
