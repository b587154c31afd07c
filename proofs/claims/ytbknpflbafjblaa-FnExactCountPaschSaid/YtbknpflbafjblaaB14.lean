/- Plain laws and contracts, part 14; conditions: stated in each. -/
import Derived.Test.YtbknpflbafjblaaB1
import Derived.Test.YtbknpflbafjblaaB2
import Derived.Test.YtbknpflbafjblaaB4
import Derived.Test.YtbknpflbafjblaaB6
import Derived.Test.YtbknpflbafjblaaB8
set_option linter.unusedSimpArgs false
set_option linter.unusedVariables false
/- Plain laws: lists in order with one more, each once; sets of disjoint blocks are found once; conditions: stated in each. -/
namespace Go.Proofs.Ytbknpflbafjblaa
set_option linter.unusedSimpArgs false
set_option linter.unusedVariables false

/-- a list comes before another one: from the i-th number on -/
def lessF (a b : List Int) : Nat → Nat → Bool
  | 0, _ => decide (a.length < b.length)
  | f + 1, i => if i < a.length ∧ i < b.length then (if nthI a i ≠ nthI b i then decide (nthI a i < nthI b i) else lessF a b f (i + 1)) else decide (a.length < b.length)
def lessL (a b : List Int) : Bool := lessF a b a.length 0
def sameL (a b : List Int) : Bool := !lessL a b && !lessL b a
theorem lessF_eq {a b : List Int} : ∀ f i, a.length ≤ i + f → lessF a b f i = false → ∀ g, b.length ≤ i + g → lessF b a g i = false → (∀ k, k < i → nthI a k = nthI b k) → i ≤ a.length → i ≤ b.length → a.length = b.length ∧ ∀ k, k < a.length → nthI a k = nthI b k := by
  intro f
  induction f with
  | zero =>
    intro i hf h g hg h2 hp ha hb
    rw [lessF] at h
    simp only [decide_eq_false_iff_not] at h
    have hi : i = a.length := by omega
    cases g with
    | zero => exact ⟨by omega, fun k hk => hp k (by omega)⟩
    | succ g =>
      rw [lessF, if_neg (by omega)] at h2
      simp only [decide_eq_false_iff_not] at h2
      exact ⟨by omega, fun k hk => hp k (by omega)⟩
  | succ f ih =>
    intro i hf h g hg h2 hp ha hb
    rw [lessF] at h
    by_cases hc : i < a.length ∧ i < b.length
    · rw [if_pos hc] at h
      cases g with
      | zero => omega
      | succ g =>
        rw [lessF, if_pos ⟨hc.2, hc.1⟩] at h2
        by_cases he : nthI a i = nthI b i
        · rw [if_neg (by simpa using he)] at h
          rw [if_neg (by simpa using he.symm)] at h2
          exact ih (i + 1) (by omega) h g (by omega) h2 (fun k hk => by
            by_cases e : k = i
            · rw [e]; exact he
            · exact hp k (by omega)) (by omega) (by omega)
        · rw [if_pos he] at h
          rw [if_pos (fun e => he e.symm)] at h2
          simp only [decide_eq_false_iff_not] at h h2
          omega
    · rw [if_neg hc] at h
      simp only [decide_eq_false_iff_not] at h
      cases g with
      | zero =>
        rw [lessF] at h2
        simp only [decide_eq_false_iff_not] at h2
        exact ⟨by omega, fun k hk => hp k (by omega)⟩
      | succ g =>
        rw [lessF, if_neg (by omega)] at h2
        simp only [decide_eq_false_iff_not] at h2
        exact ⟨by omega, fun k hk => hp k (by omega)⟩
theorem sameL_eq {a b : List Int} (h : sameL a b = true) : a = b := by
  unfold sameL lessL at h
  simp only [Bool.and_eq_true, Bool.not_eq_true'] at h
  obtain ⟨h1, h2⟩ := lessF_eq a.length 0 (by omega) h.1 b.length (by omega) h.2 (fun k hk => by omega) (by omega) (by omega)
  apply List.ext_getElem h1
  intro k k1 k2
  have := h2 k k1
  unfold nthI at this
  simpa [k1, k2] using this
/-- where a list is put in -/
def putAt (L : List (List Int)) (y : List Int) : Nat → Nat
  | 0 => 0
  | a + 1 => if lessL y (nthLL L a) = true then putAt L y a else a + 1
theorem putAt_le (L : List (List Int)) (y : List Int) : ∀ a, putAt L y a ≤ a := by
  intro a
  induction a with
  | zero => exact Nat.le_refl _
  | succ a ih => rw [putAt]; split <;> omega
def putL (L : List (List Int)) (y : List Int) : List (List Int) :=
  if 0 < putAt L y L.length ∧ sameL (nthLL L (putAt L y L.length - 1)) y = true then L else L.take (putAt L y L.length) ++ [y] ++ L.drop (putAt L y L.length)
theorem putL_mem {L : List (List Int)} {y x : List Int} (h : x ∈ putL L y) : x = y ∨ x ∈ L := by
  unfold putL at h
  split at h
  · exact .inr h
  · rw [List.mem_append, List.mem_append, List.mem_singleton] at h
    rcases h with (h | h) | h
    · exact .inr (List.mem_of_mem_take h)
    · exact .inl h
    · exact .inr (List.mem_of_mem_drop h)
theorem putL_len {L : List (List Int)} {y : List Int} (h : y ∉ L) : (putL L y).length = L.length + 1 := by
  unfold putL
  have hle := putAt_le L y L.length
  rw [if_neg]
  · simp only [List.length_append, List.length_take, List.length_drop, List.length_singleton]; omega
  · rintro ⟨h1, h2⟩
    apply h
    rw [← sameL_eq h2]
    have h3 : putAt L y L.length - 1 < L.length := by omega
    have : nthLL L (putAt L y L.length - 1) = L[putAt L y L.length - 1] := by simp [nthLL, h3]
    rw [this]; exact List.getElem_mem h3
/-- lists put in one after another -/
def putS (xs : List (List Int)) : Nat → List (List Int)
  | 0 => []
  | k + 1 => putL (putS xs k) (nthLL xs k)
theorem putS_len {xs : List (List Int)} (hn : xs.Nodup) : ∀ k, k ≤ xs.length → (putS xs k).length = k ∧ ∀ x ∈ putS xs k, ∃ j, j < k ∧ x = nthLL xs j := by
  intro k
  induction k with
  | zero => intro _; exact ⟨rfl, fun x hx => by simp [putS] at hx⟩
  | succ k ih =>
    intro hk
    obtain ⟨h1, h2⟩ := ih (by omega)
    have hg : ∀ j (hj : j < xs.length), nthLL xs j = xs[j] := fun j hj => by simp [nthLL, hj]
    refine ⟨?_, fun x hx => ?_⟩
    · rw [putS, putL_len, h1]
      intro hm
      obtain ⟨j, hj, e⟩ := h2 _ hm
      rw [hg k (by omega), hg j (by omega)] at e
      exact (List.pairwise_iff_getElem.1 hn j k (by omega) (by omega) hj) e.symm
    · rw [putS] at hx
      rcases putL_mem hx with h | h
      · exact ⟨k, by omega, h⟩
      · obtain ⟨j, hj, e⟩ := h2 x h
        exact ⟨j, by omega, e⟩
/-- all that is found goes on from the list -/
theorem cls_pre {xs : List Blk} {all : Nat} : ∀ d now m, ∀ x ∈ clsL xs all d now m, now <+: x := by
  intro d
  induction d with
  | zero =>
    intro now m x hx
    rw [clsL] at hx
    split at hx
    · rw [List.mem_singleton] at hx; rw [hx]; exact List.prefix_refl _
    · simp at hx
  | succ d ih =>
    intro now m x hx
    rw [clsL] at hx
    split at hx
    · rw [List.mem_singleton] at hx; rw [hx]; exact List.prefix_refl _
    · obtain ⟨i, _, _, _, hx⟩ := loopL_mem hx
      exact (List.prefix_append _ _).trans (ih _ _ x hx)
theorem cls_nodup {xs : List Blk} {all : Nat} : ∀ d now m, (clsL xs all d now m).Nodup := by
  intro d
  induction d with
  | zero =>
    intro now m
    rw [clsL]
    split <;> simp
  | succ d ih =>
    intro now m
    rw [clsL]
    split
    · simp
    · have key : ∀ (p : Nat → Bool) k, (loopL (fun i => clsL xs all d (now ++ [(i : Int)]) (m ||| maskB (nth xs i))) p 0 k).Nodup := by
        intro p k
        induction k with
        | zero => simp [loopL]
        | succ k ihk =>
          rw [loopL, List.nodup_append]
          refine ⟨ihk, ?_, ?_⟩
          · split
            · exact ih _ _
            · simp
          · intro x hx y hy e
            subst e
            obtain ⟨i, _, hi, _, hx⟩ := loopL_mem hx
            split at hy
            · have h1 := cls_pre _ _ _ _ hx
              have h2 := cls_pre _ _ _ _ hy
              have h3 := List.prefix_of_prefix_length_le h1 h2 (by simp)
              have h4 := h3.eq_of_length (by simp)
              have h5 := List.append_cancel_left h4
              simp at h5
              omega
            · simp at hy
      exact key _ _

end Go.Proofs.Ytbknpflbafjblaa

/- Plain laws: lists put in order, each once; conditions: stated in each. -/
namespace Go.Proofs.Ytbknpflbafjblaa
set_option linter.unusedSimpArgs false
set_option linter.unusedVariables false

/-- the order of lists, by their first numbers -/
def lexB : List Int → List Int → Bool
  | [], [] => false
  | [], _ :: _ => true
  | _ :: _, [] => false
  | x :: a, y :: b => if x ≠ y then decide (x < y) else lexB a b
theorem lexB_irr : ∀ a, lexB a a = false := by
  intro a
  induction a with
  | nil => rfl
  | cons x a ih => simp [lexB, ih]
theorem lexB_tr : ∀ a b c, lexB a b = true → lexB b c = true → lexB a c = true := by
  intro a
  induction a with
  | nil =>
    intro b c h1 h2
    cases b with
    | nil => simp [lexB] at h1
    | cons y b =>
      cases c with
      | nil => simp [lexB] at h2
      | cons z c => rfl
  | cons x a ih =>
    intro b c h1 h2
    cases b with
    | nil => simp [lexB] at h1
    | cons y b =>
      cases c with
      | nil => simp [lexB] at h2
      | cons z c =>
        rw [lexB] at h1 h2 ⊢
        by_cases e1 : x = y
        · subst e1
          rw [if_neg (by simp)] at h1
          by_cases e2 : x = z
          · subst e2
            rw [if_neg (by simp)] at h2 ⊢
            exact ih b c h1 h2
          · rw [if_pos e2] at h2 ⊢; exact h2
        · rw [if_pos e1] at h1
          simp only [decide_eq_true_eq] at h1
          by_cases e2 : y = z
          · subst e2
            rw [if_pos e1]; simpa using h1
          · rw [if_pos e2] at h2
            simp only [decide_eq_true_eq] at h2
            rw [if_pos (by omega)]
            simp only [decide_eq_true_eq]; omega
theorem lexB_tri : ∀ a b, lexB a b = false → lexB b a = false → a = b := by
  intro a
  induction a with
  | nil =>
    intro b h1 h2
    cases b with
    | nil => rfl
    | cons y b => simp [lexB] at h1
  | cons x a ih =>
    intro b h1 h2
    cases b with
    | nil => simp [lexB] at h2
    | cons y b =>
      rw [lexB] at h1 h2
      by_cases e : x = y
      · subst e
        rw [if_neg (by simp)] at h1 h2
        rw [ih b h1 h2]
      · rw [if_pos e] at h1
        rw [if_pos (fun h => e h.symm)] at h2
        simp only [decide_eq_false_iff_not] at h1 h2
        omega
theorem lessF_lex (a b : List Int) : ∀ f i, i + f = a.length → lessF a b f i = lexB (a.drop i) (b.drop i) := by
  intro f
  induction f with
  | zero =>
    intro i h
    rw [lessF, List.drop_of_length_le (by omega : a.length ≤ i)]
    by_cases hb : i < b.length
    · rw [List.drop_eq_getElem_cons hb]; simp [lexB]; omega
    · rw [List.drop_of_length_le (by omega)]; simp [lexB]; omega
  | succ f ih =>
    intro i h
    rw [lessF]
    have hai : i < a.length := by omega
    by_cases hb : i < b.length
    · rw [if_pos ⟨hai, hb⟩, List.drop_eq_getElem_cons hai, List.drop_eq_getElem_cons hb, lexB, ih (i + 1) (by omega)]
      have e1 : nthI a i = a[i] := by simp [nthI, hai]
      have e2 : nthI b i = b[i] := by simp [nthI, hb]
      rw [e1, e2]
    · rw [if_neg (by omega), List.drop_eq_getElem_cons hai, List.drop_of_length_le (by omega : b.length ≤ i)]
      simp [lexB]; omega
theorem lessL_lex (a b : List Int) : lessL a b = lexB a b := by
  unfold lessL
  rw [lessF_lex a b a.length 0 (by omega)]; rfl
theorem sameL_iff {a b : List Int} : sameL a b = true ↔ a = b := by
  refine ⟨sameL_eq, fun h => ?_⟩
  subst h
  unfold sameL; rw [lessL_lex, lexB_irr]; rfl
/-- lists in order, each once -/
def StrL (L : List (List Int)) : Prop := L.Pairwise (fun a b => lexB a b = true)
theorem StrL.nodup {L : List (List Int)} (h : StrL L) : L.Nodup := h.imp fun {a b} hab e => by subst e; rw [lexB_irr] at hab; cases hab
theorem putAt_spec (L : List (List Int)) (y : List Int) : ∀ a, (∀ k, putAt L y a ≤ k → k < a → lexB y (nthLL L k) = true) ∧ (0 < putAt L y a → lexB y (nthLL L (putAt L y a - 1)) = false) := by
  intro a
  induction a with
  | zero => exact ⟨fun k _ h => by omega, fun h => by simp [putAt] at h⟩
  | succ a ih =>
    rw [putAt, lessL_lex]
    by_cases h : lexB y (nthLL L a) = true
    · rw [if_pos h]
      exact ⟨fun k h1 h2 => by
        by_cases e : k = a
        · rw [e]; exact h
        · exact ih.1 k h1 (by omega), ih.2⟩
    · rw [if_neg h]
      exact ⟨fun k h1 h2 => by omega, fun _ => by simpa using h⟩
theorem nthLL_get {L : List (List Int)} {k : Nat} (h : k < L.length) : nthLL L k = L[k] := by simp [nthLL, h]
/-- a list put in: the order is kept, and the lists are those and it -/
theorem putL_str {L : List (List Int)} (h : StrL L) (y : List Int) : StrL (putL L y) ∧ ∀ x, x ∈ putL L y ↔ x = y ∨ x ∈ L := by
  have hle := putAt_le L y L.length
  obtain ⟨s1, s2⟩ := putAt_spec L y L.length
  have hord : ∀ j k, j < k → (hk : k < L.length) → lexB (nthLL L j) (nthLL L k) = true := fun j k hjk hk => by
    rw [nthLL_get hk, nthLL_get (by omega)]
    exact List.pairwise_iff_getElem.1 h j k (by omega) hk hjk
  unfold putL
  generalize putAt L y L.length = a at *
  by_cases hc : 0 < a ∧ sameL (nthLL L (a - 1)) y = true
  · rw [if_pos hc]
    refine ⟨h, fun x => ⟨.inr, fun hx => hx.elim (fun e => ?_) id⟩⟩
    rw [e, ← sameL_iff.1 hc.2, nthLL_get (by omega)]
    exact List.getElem_mem _
  · rw [if_neg hc]
    have hbef : ∀ x ∈ L.take a, lexB x y = true := fun x hx => by
      obtain ⟨i, hi, e⟩ := List.getElem_of_mem hx
      rw [List.length_take] at hi
      rw [List.getElem_take] at e
      have ha0 : 0 < a := by omega
      have hn := s2 ha0
      have hlast : lexB (nthLL L (a - 1)) y = true := by
        cases hb : lexB (nthLL L (a - 1)) y
        · exact absurd ⟨ha0, sameL_iff.2 (lexB_tri _ _ hb hn)⟩ hc
        · rfl
      rw [← e, ← nthLL_get (by omega : i < L.length)]
      by_cases e2 : i = a - 1
      · rw [e2]; exact hlast
      · exact lexB_tr _ _ _ (hord i (a - 1) (by omega) (by omega)) hlast
    have haft : ∀ x ∈ L.drop a, lexB y x = true := fun x hx => by
      obtain ⟨i, hi, e⟩ := List.getElem_of_mem hx
      rw [List.length_drop] at hi
      rw [List.getElem_drop] at e
      have := s1 (a + i) (by omega) (by omega)
      rw [nthLL_get (by omega), e] at this
      exact this
    refine ⟨?_, fun x => ?_⟩
    · unfold StrL
      rw [List.append_assoc, List.pairwise_append]
      refine ⟨h.sublist (List.take_sublist _ _), ?_, fun x hx z hz => ?_⟩
      · rw [List.singleton_append, List.pairwise_cons]
        exact ⟨haft, h.sublist (List.drop_sublist _ _)⟩
      · rw [List.singleton_append, List.mem_cons] at hz
        rcases hz with rfl | hz
        · exact hbef x hx
        · exact lexB_tr _ _ _ (hbef x hx) (haft z hz)
    · rw [List.mem_append, List.mem_append, List.mem_singleton]
      have : x ∈ L ↔ x ∈ L.take a ∨ x ∈ L.drop a := by rw [← List.mem_append, List.take_append_drop]
      rw [this]
      constructor
      · rintro ((h1 | h1) | h1)
        · exact .inr (.inl h1)
        · exact .inl h1
        · exact .inr (.inr h1)
      · rintro (h1 | h1 | h1)
        · exact .inl (.inr h1)
        · exact .inl (.inl h1)
        · exact .inr h1
theorem nodup_len_leL {α : Type} [DecidableEq α] : ∀ (L M : List α), L.Nodup → (∀ x ∈ L, x ∈ M) → L.length ≤ M.length := by
  intro L
  induction L with
  | nil => intro M _ _; simp
  | cons a L ih =>
    intro M hn hs
    rw [List.nodup_cons] at hn
    have ha := hs a (by simp)
    have h := ih (M.erase a) hn.2 (fun x hx => (List.mem_erase_of_ne (by intro e; subst e; exact hn.1 hx)).2 (hs x (by simp [hx])))
    rw [List.length_erase_of_mem ha] at h
    have : 0 < M.length := List.length_pos_of_mem ha
    simp only [List.length_cons]; omega
theorem same_len {α : Type} [DecidableEq α] {L M : List α} (hL : L.Nodup) (hM : M.Nodup) (h : ∀ x, x ∈ L ↔ x ∈ M) : L.length = M.length :=
  Nat.le_antisymm (nodup_len_leL L M hL fun x hx => (h x).1 hx) (nodup_len_leL M L hM fun x hx => (h x).2 hx)

end Go.Proofs.Ytbknpflbafjblaa

/- Plain laws: numbers in order, and the lengths of the ways of a map; conditions: stated in each. -/
namespace Go.Proofs.Ytbknpflbafjblaa
set_option linter.unusedSimpArgs false
set_option linter.unusedVariables false

def leI (a b : Int) : Bool := decide (a ≤ b)
def geI (a b : Int) : Bool := decide (b ≤ a)
/-- numbers in order -/
def srtI (xs : List Int) : List Int := xs.mergeSort leI
/-- numbers, greatest first -/
def dscI (xs : List Int) : List Int := xs.mergeSort geI
theorem srtI_perm (xs : List Int) : (srtI xs).Perm xs := List.mergeSort_perm _ _
theorem srtI_sorted (xs : List Int) : (srtI xs).Pairwise (fun a b => leI a b = true) :=
  List.pairwise_mergeSort (le := leI) (fun a b c h1 h2 => by unfold leI at *; simp only [decide_eq_true_eq] at *; omega) (fun a b => by unfold leI; simp only [Bool.or_eq_true, decide_eq_true_eq]; omega) xs
theorem dscI_perm (xs : List Int) : (dscI xs).Perm xs := List.mergeSort_perm _ _
theorem dscI_sorted (xs : List Int) : (dscI xs).Pairwise (fun a b => geI a b = true) :=
  List.pairwise_mergeSort (le := geI) (fun a b c h1 h2 => by unfold geI at *; simp only [decide_eq_true_eq] at *; omega) (fun a b => by unfold geI; simp only [Bool.or_eq_true, decide_eq_true_eq]; omega) xs
theorem srtI_uniq {l xs : List Int} (hp : l.Perm xs) (hs : l.Pairwise (fun a b => leI a b = true)) : srtI xs = l :=
  List.Perm.eq_of_pairwise (le := fun a b => leI a b = true) (fun a b _ _ h1 h2 => by unfold leI at *; simp only [decide_eq_true_eq] at *; omega) (srtI_sorted xs) hs ((srtI_perm xs).trans hp.symm)
theorem dscI_uniq {l xs : List Int} (hp : l.Perm xs) (hs : l.Pairwise (fun a b => geI a b = true)) : dscI xs = l :=
  List.Perm.eq_of_pairwise (le := fun a b => geI a b = true) (fun a b _ _ h1 h2 => by unfold geI at *; simp only [decide_eq_true_eq] at *; omega) (dscI_sorted xs) hs ((dscI_perm xs).trans hp.symm)
theorem srtI_len (xs : List Int) : (srtI xs).length = xs.length := (srtI_perm xs).length_eq
theorem dscI_len (xs : List Int) : (dscI xs).length = xs.length := (dscI_perm xs).length_eq
theorem srtI_app (ys : List Int) (b : Int) : srtI (srtI ys ++ [b]) = srtI (ys ++ [b]) :=
  srtI_uniq ((srtI_perm _).trans ((srtI_perm ys).append_right [b]).symm) (srtI_sorted _)
theorem srtI_self {xs : List Int} (h : xs.Pairwise (fun a b => leI a b = true)) : srtI xs = xs := srtI_uniq (List.Perm.refl _) h
/-- what is sorted with other signs -/
theorem dsc_neg (xs : List Int) : (srtI (xs.map (fun x => -x))).map (fun x => -x) = dscI xs := by
  symm
  refine dscI_uniq ?_ ?_
  · have h := (srtI_perm (xs.map (fun x => -x))).map (fun x => -x)
    rw [List.map_map] at h
    have e : ((fun x : Int => -x) ∘ fun x => -x) = id := by funext x; simp
    rw [e, List.map_id] at h
    exact h
  · rw [List.pairwise_map]
    exact (srtI_sorted _).imp fun {a b} h => by unfold leI at h; unfold geI; simp only [decide_eq_true_eq] at *; omega
theorem nthI_get {xs : List Int} {k : Nat} (h : k < xs.length) : nthI xs k = xs[k] := by simp [nthI, h]
theorem takeI_next {xs : List Int} {k : Nat} (h : k < xs.length) : xs.take k ++ [nthI xs k] = xs.take (k + 1) := by
  rw [List.take_succ_eq_append_getElem h, nthI_get h]
/-- a number put in at its place -/
theorem insI_srt {out : List Int} {b : Int} {a : Nat} (hs : out.Pairwise (fun a b => leI a b = true)) (ha : a ≤ out.length) (h1 : ∀ j, a ≤ j → j < out.length → b < nthI out j) (h2 : a = 0 ∨ nthI out (a - 1) ≤ b) :
    out.take a ++ [b] ++ out.drop a = srtI (out ++ [b]) := by
  symm
  refine srtI_uniq ?_ ?_
  · have : (out.take a ++ [b] ++ out.drop a).Perm (out.take a ++ out.drop a ++ [b]) := by
      rw [List.append_assoc, List.append_assoc]
      exact (List.perm_append_comm).append_left _
    rwa [List.take_append_drop] at this
  · have hall : ∀ x, x ∈ out.take a → x ≤ b := by
      intro x hx
      rcases h2 with rfl | h2
      · simp at hx
      · obtain ⟨i, hi, e⟩ := List.getElem_of_mem hx
        rw [List.length_take] at hi
        rw [List.getElem_take] at e
        by_cases e2 : i = a - 1
        · rw [← e]; subst e2; rw [nthI_get (by omega)] at h2; exact h2
        · have := List.pairwise_iff_getElem.1 hs i (a - 1) (by omega) (by omega) (by omega)
          unfold leI at this
          simp only [decide_eq_true_eq] at this
          rw [nthI_get (by omega)] at h2
          rw [← e]; omega
    have hdr : ∀ x, x ∈ out.drop a → b ≤ x := by
      intro x hx
      obtain ⟨i, hi, e⟩ := List.getElem_of_mem hx
      rw [List.length_drop] at hi
      rw [List.getElem_drop] at e
      have := h1 (a + i) (by omega) (by omega)
      rw [nthI_get (by omega), e] at this
      omega
    rw [List.append_assoc, List.pairwise_append]
    refine ⟨hs.sublist (List.take_sublist _ _), ?_, ?_⟩
    · rw [List.singleton_append, List.pairwise_cons]
      exact ⟨fun x hx => by unfold leI; simpa using hdr x hx, hs.sublist (List.drop_sublist _ _)⟩
    · intro x hx y hy
      rw [List.singleton_append, List.mem_cons] at hy
      unfold leI
      rcases hy with rfl | hy
      · simpa using hall x hx
      · have h1 := hall x hx; have h2 := hdr y hy; simp only [decide_eq_true_eq]; omega
theorem midI_len {S : List Int} {j : Int} {t : Nat} : (S.take t ++ [j] ++ S.drop t).length = S.length + 1 := by
  simp only [List.length_append, List.length_take, List.length_drop, List.length_singleton]; omega
theorem midI_nth {S : List Int} {j : Int} {t i : Nat} (ht : t ≤ S.length) (hi : i < t) : nthI (S.take t ++ [j] ++ S.drop t) i = nthI S i := by
  unfold nthI
  rw [List.append_assoc, List.getD_eq_getElem?_getD, List.getElem?_append_left (by rw [List.length_take]; omega), List.getElem?_take_of_lt hi, List.getD_eq_getElem?_getD]
theorem midI_end {S : List Int} {j b : Int} {t : Nat} (ht : t ≤ S.length) : (S.take t ++ [j] ++ S.drop t).set t b = S.take t ++ [b] ++ S.drop t := by
  have hl : (S.take t).length = t := by rw [List.length_take]; omega
  have key : ∀ (A B : List Int), (A ++ [j] ++ B).set A.length b = A ++ [b] ++ B := by
    intro A B
    induction A with
    | nil => rfl
    | cons a A ih => simp at ih ⊢
  have := key (S.take t) (S.drop t)
  rwa [hl] at this
theorem midI_back {S : List Int} {j : Int} {t : Nat} (ht : t ≤ S.length) (h0 : 0 < t) : (S.take t ++ [j] ++ S.drop t).set t (nthI S (t - 1)) = S.take (t - 1) ++ [nthI S (t - 1)] ++ S.drop (t - 1) := by
  rw [midI_end ht]
  have e1 : S.take (t - 1) ++ [nthI S (t - 1)] = S.take t := by
    have := takeI_next (xs := S) (k := t - 1) (by omega)
    rwa [(by omega : t - 1 + 1 = t)] at this
  have e2 : S.drop (t - 1) = nthI S (t - 1) :: S.drop t := by
    rw [nthI_get (by omega), List.drop_eq_getElem_cons (by omega), (by omega : t - 1 + 1 = t)]
  rw [e1, e2]; simp

/-- one way of a map, till it comes back -/
def turnF (f : Nat → Nat) : Nat → (Nat → Bool) → Nat → Nat → (Nat → Bool) × Nat
  | 0, s, _, c => (s, c)
  | k + 1, s, q, c => if s q = true then (s, c) else turnF f k (updA s q true) (f q) (c + 1)
theorem turnF_done {f : Nat → Nat} {k : Nat} {s : Nat → Bool} {q c : Nat} (h : s q = true) : turnF f k s q c = (s, c) := by
  cases k with
  | zero => rfl
  | succ k => rw [turnF, if_pos h]
theorem turnF_next {f : Nat → Nat} {k : Nat} {s : Nat → Bool} {q c : Nat} (h : s q = false) : turnF f (k + 1) s q c = turnF f k (updA s q true) (f q) (c + 1) := by
  rw [turnF, if_neg (by simp [h])]
theorem turnF_le (f : Nat → Nat) : ∀ k s q c, c ≤ (turnF f k s q c).2 ∧ (turnF f k s q c).2 ≤ c + k := by
  intro k
  induction k with
  | zero => intro s q c; exact ⟨Nat.le_refl _, Nat.le_refl _⟩
  | succ k ih =>
    intro s q c
    rw [turnF]
    split
    · exact ⟨Nat.le_refl _, by show c ≤ c + (k + 1); omega⟩
    · have := ih (updA s q true) (f q) (c + 1)
      omega
/-- how many are not yet met -/
def unS (s : Nat → Bool) (n : Nat) : Nat := cntF (fun i => !s i) n
theorem unS_le (s : Nat → Bool) (n : Nat) : unS s n ≤ n := cntF_le _ _
theorem unS_put {s : Nat → Bool} {n q : Nat} (hq : q < n) (h : s q = false) : unS s n = unS (updA s q true) n + 1 := by
  unfold unS
  have h1 := cntF_eq q n hq
  have h2 := cntF_or (f := fun i => !(updA s q true i)) (g := fun i => decide (i = q)) (h := fun i => !s i) n (fun j _ => by
    unfold updA
    by_cases e : j = q
    · subst e; simp [h]
    · simp [e])
  omega
/-- the lengths of the ways from the first points -/
def cycS (f : Nat → Nat) (n : Nat) : Nat → (Nat → Bool) × List Int
  | 0 => (fun _ => false, [])
  | p + 1 => ((turnF f n (cycS f n p).1 p 0).1, if 0 < (turnF f n (cycS f n p).1 p 0).2 then (cycS f n p).2 ++ [((turnF f n (cycS f n p).1 p 0).2 : Int)] else (cycS f n p).2)
theorem cycS_len (f : Nat → Nat) (n : Nat) : ∀ p, (cycS f n p).2.length ≤ p := by
  intro p
  induction p with
  | zero => simp [cycS]
  | succ p ih =>
    rw [cycS]
    split
    · show ((cycS f n p).2 ++ [_]).length ≤ p + 1
      rw [List.length_append, List.length_singleton]; omega
    · show (cycS f n p).2.length ≤ p + 1
      omega
theorem cycS_bd (f : Nat → Nat) (n : Nat) : ∀ p, ∀ x ∈ (cycS f n p).2, 0 < x ∧ x ≤ n := by
  intro p
  induction p with
  | zero => simp [cycS]
  | succ p ih =>
    intro x hx
    rw [cycS] at hx
    have h := turnF_le f n (cycS f n p).1 p 0
    by_cases e : 0 < (turnF f n (cycS f n p).1 p 0).2
    · rw [if_pos e] at hx
      rcases List.mem_append.1 hx with h2 | h2
      · exact ih x h2
      · simp at h2; omega
    · rw [if_neg e] at hx; exact ih x hx

end Go.Proofs.Ytbknpflbafjblaa

/- Plain laws of Pasch: four blocks on six points; conditions: stated in each. -/
namespace Go.Proofs.Ytbknpflbafjblaa
set_option linter.unusedSimpArgs false
set_option linter.unusedVariables false

def bn (b : Bool) : Nat := if b = true then 1 else 0
theorem cntF_bn (f : Nat → Bool) (n : Nat) : cntF f (n + 1) = cntF f n + bn (f n) := rfl
/-- four sets of which no point is in three: pairs and points -/
theorem cnt4 (f g h k : Nat → Bool) : ∀ n, (∀ p, p < n → bn (f p) + bn (g p) + bn (h p) + bn (k p) ≤ 2) →
    cntF (fun p => f p && g p) n + cntF (fun p => f p && h p) n + cntF (fun p => f p && k p) n + cntF (fun p => g p && h p) n + cntF (fun p => g p && k p) n + cntF (fun p => h p && k p) n + cntF (fun p => f p || g p || h p || k p) n = cntF f n + cntF g n + cntF h n + cntF k n := by
  intro n
  induction n with
  | zero => intro _; rfl
  | succ n ih =>
    intro hh
    have h1 := ih (fun p hp => hh p (by omega))
    have h2 := hh n (by omega)
    have key : ∀ a b c d : Bool, bn a + bn b + bn c + bn d ≤ 2 → bn (a && b) + bn (a && c) + bn (a && d) + bn (b && c) + bn (b && d) + bn (c && d) + bn (a || b || c || d) = bn a + bn b + bn c + bn d := by decide
    have h3 := key _ _ _ _ h2
    simp only [cntF_bn]
    omega
/-- how many of the blocks with these numbers have a point -/
def hvL (xs : List Blk) (q : List Int) (p : Nat) : Nat := q.countP fun k => hasB (nth xs k.toNat) (p : Int)
/-- the blocks with these numbers are a Pasch -/
def paL (xs : List Blk) (q : List Int) : Prop := (∀ p, p < 15 → hvL xs q p ≤ 2) ∧ cntF (fun p => decide (0 < hvL xs q p)) 15 = 6
theorem paL_perm {xs : List Blk} {q r : List Int} (h : q.Perm r) : paL xs q ↔ paL xs r := by
  have e : ∀ p, hvL xs q p = hvL xs r p := fun p => h.countP_eq _
  unfold paL
  simp only [e]
theorem hv4 (xs : List Blk) (i j k m : Nat) (p : Nat) : hvL xs [(i : Int), j, k, m] p = bn (hasB (nth xs i) p) + bn (hasB (nth xs j) p) + bn (hasB (nth xs k) p) + bn (hasB (nth xs m) p) := by
  unfold hvL bn
  simp only [List.countP_cons, List.countP_nil, Int.toNat_natCast]
  omega
/-- two points are in one block at most -/
theorem uniq2 {v : Int} {xs : List Blk} (hs : isSys v xs) {i j : Nat} (hi : i < xs.length) (hj : j < xs.length) {p q : Int} (h1 : hasB (nth xs i) p = true) (h2 : hasB (nth xs i) q = true) (h3 : hasB (nth xs j) p = true) (h4 : hasB (nth xs j) q = true) (hne : p ≠ q) : i = j := by
  have gi := hs.2.2.1 i hi
  have gj := hs.2.2.1 j hj
  have hbi : bothB (nth xs i) p q = true := by unfold bothB; rw [h1, h2]; rfl
  have hbj : bothB (nth xs j) p q = true := by unfold bothB; rw [h3, h4]; rfl
  have h := com_two gi.1 gj.1 hne hbi hbj
  rcases Nat.lt_trichotomy i j with h5 | h5 | h5
  · have := hs.2.2.2 j hj i h5
    rw [comI_symm] at this; omega
  · exact h5
  · have := hs.2.2.2 i hi j h5; omega

theorem cnt_one {h : Nat → Bool} : ∀ n, (∀ p q, p < n → q < n → h p = true → h q = true → p = q) → cntF h n ≤ 1 := by
  intro n
  induction n with
  | zero => intro _; simp [cntF]
  | succ n ih =>
    intro hu
    have h1 := ih (fun p q hp hq => hu p q (by omega) (by omega))
    rw [cntF_bn]
    cases hn : h n
    · simp [bn]; exact h1
    · have h0 : cntF h n = 0 := by
        have key : ∀ m, m ≤ n → cntF h m = 0 := by
          intro m
          induction m with
          | zero => intro _; rfl
          | succ m ihm =>
            intro hm
            rw [cntF_bn, ihm (by omega)]
            cases hh : h m
            · rfl
            · have := hu m n (by omega) (by omega) hh hn; omega
        exact key n (Nat.le_refl _)
      rw [h0]; simp [bn]
theorem cnt_ex {h : Nat → Bool} : ∀ n, 0 < cntF h n → ∃ p, p < n ∧ h p = true := by
  intro n
  induction n with
  | zero => intro h0; simp [cntF] at h0
  | succ n ih =>
    intro h0
    cases hn : h n
    · rw [cntF_bn, hn] at h0
      obtain ⟨p, h1, h2⟩ := ih (by simpa [bn] using h0)
      exact ⟨p, by omega, h2⟩
    · exact ⟨n, by omega, hn⟩
theorem cnt_pos {h : Nat → Bool} {p : Nat} : ∀ n, p < n → h p = true → 0 < cntF h n := by
  intro n
  induction n with
  | zero => intro h0; omega
  | succ n ih =>
    intro h0 hp
    rw [cntF_bn]
    by_cases e : p = n
    · subst e; rw [hp]; simp [bn]
    · have := ih (by omega) hp; omega
theorem cnt_three {v : Int} {xs : List Blk} (hs : isSys v xs) {i : Nat} (hi : i < xs.length) : cntF (fun p => hasB (nth xs i) (p : Int)) 15 = 3 := by
  have hg := good_mono (hs.2.2.1 i hi).1 hs.1.2
  have hb := good_bd hg
  rw [cntF_has hg 15, if_pos (by simp; omega), if_pos (by simp; omega), if_pos (by simp; omega)]
/-- two blocks with a common point -/
def ctB (xs : List Blk) (i j : Nat) : Prop := ∃ p : Nat, p < 15 ∧ hasB (nth xs i) p = true ∧ hasB (nth xs j) p = true
theorem ct_le {v : Int} {xs : List Blk} (hs : isSys v xs) {i j : Nat} (hi : i < xs.length) (hj : j < xs.length) (hne : i ≠ j) : cntF (fun p => hasB (nth xs i) (p : Int) && hasB (nth xs j) (p : Int)) 15 ≤ 1 := by
  refine cnt_one 15 fun p q _ _ h1 h2 => ?_
  rw [Bool.and_eq_true] at h1 h2
  by_cases e : p = q
  · exact e
  · exact absurd (uniq2 hs hi hj h1.1 h2.1 h1.2 h2.2 (by omega)) hne
theorem ct_iff {xs : List Blk} {i j : Nat} : ctB xs i j ↔ 0 < cntF (fun p => hasB (nth xs i) (p : Int) && hasB (nth xs j) (p : Int)) 15 := by
  constructor
  · rintro ⟨p, h1, h2, h3⟩; exact cnt_pos 15 h1 (by rw [h2, h3]; rfl)
  · intro h
    obtain ⟨p, h1, h2⟩ := cnt_ex 15 h
    rw [Bool.and_eq_true] at h2
    exact ⟨p, h1, h2⟩
/-- a Pasch: each two blocks meet, no point is in three -/
theorem pa_iff {v : Int} {xs : List Blk} (hs : isSys v xs) {i j k m : Nat} (hi : i < xs.length) (hj : j < xs.length) (hk : k < xs.length) (hm : m < xs.length) (ij : i ≠ j) (ik : i ≠ k) (im : i ≠ m) (jk : j ≠ k) (jm : j ≠ m) (km : k ≠ m) :
    paL xs [(i : Int), j, k, m] ↔ (∀ p : Nat, p < 15 → bn (hasB (nth xs i) p) + bn (hasB (nth xs j) p) + bn (hasB (nth xs k) p) + bn (hasB (nth xs m) p) ≤ 2) ∧ ctB xs i j ∧ ctB xs i k ∧ ctB xs i m ∧ ctB xs j k ∧ ctB xs j m ∧ ctB xs k m := by
  unfold paL
  simp only [hv4, ct_iff]
  have e : cntF (fun p => decide (0 < bn (hasB (nth xs i) (p : Int)) + bn (hasB (nth xs j) (p : Int)) + bn (hasB (nth xs k) (p : Int)) + bn (hasB (nth xs m) (p : Int)))) 15 = cntF (fun p => hasB (nth xs i) (p : Int) || hasB (nth xs j) (p : Int) || hasB (nth xs k) (p : Int) || hasB (nth xs m) (p : Int)) 15 :=
    cntF_congr 15 fun p _ => by
      have key : ∀ a b c d : Bool, decide (0 < bn a + bn b + bn c + bn d) = (a || b || c || d) := by decide
      exact key _ _ _ _
  rw [e]
  have t1 := cnt_three hs hi; have t2 := cnt_three hs hj; have t3 := cnt_three hs hk; have t4 := cnt_three hs hm
  have l1 := ct_le hs hi hj ij; have l2 := ct_le hs hi hk ik; have l3 := ct_le hs hi hm im; have l4 := ct_le hs hj hk jk; have l5 := ct_le hs hj hm jm; have l6 := ct_le hs hk hm km
  constructor
  · rintro ⟨h1, h2⟩
    have h3 := cnt4 (fun p => hasB (nth xs i) (p : Int)) (fun p => hasB (nth xs j) (p : Int)) (fun p => hasB (nth xs k) (p : Int)) (fun p => hasB (nth xs m) (p : Int)) 15 h1
    exact ⟨h1, by omega, by omega, by omega, by omega, by omega, by omega⟩
  · rintro ⟨h1, c1, c2, c3, c4, c5, c6⟩
    have h3 := cnt4 (fun p => hasB (nth xs i) (p : Int)) (fun p => hasB (nth xs j) (p : Int)) (fun p => hasB (nth xs k) (p : Int)) (fun p => hasB (nth xs m) (p : Int)) 15 h1
    exact ⟨h1, by omega⟩

end Go.Proofs.Ytbknpflbafjblaa

/- Plain laws of Pasch: what the reference finds; conditions: stated in each. -/
namespace Go.Proofs.Ytbknpflbafjblaa
set_option linter.unusedSimpArgs false
set_option linter.unusedVariables false

/-- a block's three points -/
def tri (A : Blk) (a c e : Int) : Prop := hasB A a = true ∧ hasB A c = true ∧ hasB A e = true ∧ a ≠ c ∧ a ≠ e ∧ c ≠ e ∧ ∀ p, hasB A p = true → p = a ∨ p = c ∨ p = e
theorem tri_mk {v : Int} {A : Blk} (hg : goodB v A = true) {c f : Int} (h1 : hasB A c = true) (h2 : hasB A f = true) (hne : c ≠ f) : tri A c f (sumB A - c - f) := by
  have hb := good_bd hg
  rw [has_iff] at h1 h2
  unfold tri sumB
  simp only [has_iff]
  refine ⟨h1, h2, ?_, hne, ?_, ?_, fun p hp => ?_⟩ <;> omega
theorem tri_sum {v : Int} {A : Blk} (hg : goodB v A = true) {a c e : Int} (h : tri A a c e) : sumB A - a - c = e := by
  have hb := good_bd hg
  obtain ⟨h1, h2, h3, h4, h5, h6, _⟩ := h
  rw [has_iff] at h1 h2 h3
  unfold sumB
  omega
theorem ct_mk {v : Int} {xs : List Blk} (hs : isSys v xs) {i j : Nat} (hi : i < xs.length) {p : Int} (h1 : hasB (nth xs i) p = true) (h2 : hasB (nth xs j) p = true) : ctB xs i j := by
  have hb := good_bd (good_mono (hs.2.2.1 i hi).1 hs.1.2)
  have h3 := has_iff.1 h1
  refine ⟨p.toNat, by omega, ?_, ?_⟩
  · rw [Int.toNat_of_nonneg (by omega)]; exact h1
  · rw [Int.toNat_of_nonneg (by omega)]; exact h2
theorem no3 : ∀ a b c d : Bool, (a && b && c) = false → (a && b && d) = false → (a && c && d) = false → (b && c && d) = false → bn a + bn b + bn c + bn d ≤ 2 := by decide
theorem of3 : ∀ a b c d : Bool, bn a + bn b + bn c + bn d ≤ 2 → (a && b && c) = false ∧ (a && b && d) = false ∧ (a && c && d) = false ∧ (b && c && d) = false := by decide
theorem third_ex {v : Int} {xs : List Blk} (hs : isSys v xs) {p q : Int} (hne : p ≠ q) (h : 0 ≤ third xs p q) : ∃ K, K < xs.length ∧ hasB (nth xs K) p = true ∧ hasB (nth xs K) q = true ∧ third xs p q = sumB (nth xs K) - p - q := by
  rcases first_of (P := fun j => bothB (nth xs j) p q) xs.length with h1 | ⟨K, k1, k2, _⟩
  · rw [third_none p q xs h1] at h; omega
  · unfold bothB at k2
    rw [Bool.and_eq_true] at k2
    exact ⟨K, k1, k2.1, k2.2, third_of hs k1 hne k2.1 k2.2⟩
/-- what is found is a Pasch -/
theorem item_pa {v : Int} {xs : List Blk} (hs : isSys v xs) {i j : Nat} (hi : i < xs.length) (hj : j < xs.length) (hne : i ≠ j) {a c e d f b : Int} (hA : tri (nth xs i) a c e) (hB : tri (nth xs j) a d f) (hb : 0 ≤ b) (h1 : third xs c f = b) (h2 : third xs d e = b) :
    ∃ K M, K < xs.length ∧ M < xs.length ∧ hasB (nth xs K) c = true ∧ hasB (nth xs K) f = true ∧ hasB (nth xs M) d = true ∧ hasB (nth xs M) e = true ∧ c ≠ f ∧ d ≠ e ∧ i ≠ K ∧ i ≠ M ∧ j ≠ K ∧ j ≠ M ∧ K ≠ M ∧ paL xs [(i : Int), j, K, M] := by
  obtain ⟨a1, a2, a3, a4, a5, a6, a7⟩ := hA
  obtain ⟨b1, b2, b3, b4, b5, b6, b7⟩ := hB
  -- a common point of the two is a
  have hab : ∀ p, hasB (nth xs i) p = true → hasB (nth xs j) p = true → p = a := fun p h3 h4 => by
    by_cases e1 : p = a
    · exact e1
    · exact absurd (uniq2 hs hi hj h3 a1 h4 b1 e1) hne
  have hcf : c ≠ f := fun h => a4 (hab c a2 (h ▸ b3)).symm
  have hde : d ≠ e := fun h => a5 (hab e a3 (h ▸ b2)).symm
  obtain ⟨K, k1, k2, k3, k4⟩ := third_ex hs hcf (by omega)
  obtain ⟨M, m1, m2, m3, m4⟩ := third_ex hs hde (by omega)
  have gK := (hs.2.2.1 K k1).1
  have gM := (hs.2.2.1 M m1).1
  have tK := tri_mk gK k2 k3 hcf
  have tM := tri_mk gM m2 m3 hde
  rw [← k4, h1] at tK
  rw [← m4, h2] at tM
  have hiK : i ≠ K := fun h => b5 (hab f (h ▸ k3) b3).symm
  have hjK : j ≠ K := fun h => a4 (hab c a2 (h ▸ k2)).symm
  have hiM : i ≠ M := fun h => b4 (hab d (h ▸ m2) b2).symm
  have hjM : j ≠ M := fun h => a5 (hab e a3 (h ▸ m3)).symm
  have hKM : K ≠ M := fun h => hiK (uniq2 hs hi k1 a2 a3 k2 (h ▸ m3) a6)
  have two : ∀ {x y : Nat} {p q : Int}, x < xs.length → y < xs.length → x ≠ y → hasB (nth xs x) p = true → hasB (nth xs y) p = true → hasB (nth xs x) q = true → hasB (nth xs y) q = true → p = q := fun {x y p q} hx hy hxy g1 g2 g3 g4 => by
    by_cases e1 : p = q
    · exact e1
    · exact absurd (uniq2 hs hx hy g1 g3 g2 g4 e1) hxy
  refine ⟨K, M, k1, m1, k2, k3, m2, m3, hcf, hde, hiK, hiM, hjK, hjM, hKM, (pa_iff hs hi hj k1 m1 hne hiK hiM hjK hjM hKM).2 ⟨fun p _ => no3 _ _ _ _ ?_ ?_ ?_ ?_, ct_mk hs hi a1 b1, ct_mk hs hi a2 k2, ct_mk hs hi a3 m3, ct_mk hs hj b3 k3, ct_mk hs hj b2 m2, ct_mk hs k1 tK.2.2.1 tM.2.2.1⟩⟩
  · rw [← Bool.not_eq_true, Bool.and_eq_true, Bool.and_eq_true]
    rintro ⟨⟨g1, g2⟩, g3⟩
    exact a4 ((two hi hj hne a1 b1 g1 g2).trans (two hi k1 hiK g1 g3 a2 k2))
  · rw [← Bool.not_eq_true, Bool.and_eq_true, Bool.and_eq_true]
    rintro ⟨⟨g1, g2⟩, g3⟩
    exact a5 ((two hi hj hne a1 b1 g1 g2).trans (two hi m1 hiM g1 g3 a3 m3))
  · rw [← Bool.not_eq_true, Bool.and_eq_true, Bool.and_eq_true]
    rintro ⟨⟨g1, g2⟩, g3⟩
    exact a6 ((two hi k1 hiK a2 k2 g1 g2).trans (two hi m1 hiM g1 g3 a3 m3))
  · rw [← Bool.not_eq_true, Bool.and_eq_true, Bool.and_eq_true]
    rintro ⟨⟨g1, g2⟩, g3⟩
    exact b6 ((two hj m1 hjM b2 m2 g1 g3).trans (two hj k1 hjK g1 g2 b3 k3))
/-- one way of the two turns -/
theorem pa_turn {v : Int} {xs : List Blk} (hs : isSys v xs) {i j K M : Nat} (hi : i < xs.length) (hj : j < xs.length) (hK : K < xs.length) (hM : M < xs.length) {c e d f : Int}
    (n3 : ∀ p : Nat, p < 15 → bn (hasB (nth xs i) p) + bn (hasB (nth xs j) p) + bn (hasB (nth xs K) p) + bn (hasB (nth xs M) p) ≤ 2)
    (hc : hasB (nth xs i) c = true) (he : hasB (nth xs i) e = true) (hd : hasB (nth xs j) d = true) (hf : hasB (nth xs j) f = true) (k1 : hasB (nth xs K) c = true) (k2 : hasB (nth xs K) f = true) (m1 : hasB (nth xs M) d = true) (m2 : hasB (nth xs M) e = true) (hcf : c ≠ f) (hde : d ≠ e) (hKM : ctB xs K M) :
    ∃ b, 0 ≤ b ∧ third xs c f = b ∧ third xs d e = b := by
  have gK := (hs.2.2.1 K hK).1
  have gM := (hs.2.2.1 M hM).1
  have tK := tri_mk gK k1 k2 hcf
  have tM := tri_mk gM m1 m2 hde
  rw [third_of hs hK hcf k1 k2, third_of hs hM hde m1 m2]
  obtain ⟨r, r1, r2, r3⟩ := hKM
  obtain ⟨o1, o2, o3, o4⟩ := of3 _ _ _ _ (n3 r r1)
  have e1 : (r : Int) = sumB (nth xs K) - c - f := by
    rcases tK.2.2.2.2.2.2 r r2 with h | h | h
    · rw [h, hc] at o3; rw [h] at r2 r3; rw [r2, r3] at o3; cases o3
    · rw [h, hf] at o4; rw [h] at r2 r3; rw [r2, r3] at o4; cases o4
    · exact h
  have e2 : (r : Int) = sumB (nth xs M) - d - e := by
    rcases tM.2.2.2.2.2.2 r r3 with h | h | h
    · rw [h, hd] at o4; rw [h] at r2 r3; rw [r2, r3] at o4; cases o4
    · rw [h, he] at o3; rw [h] at r2 r3; rw [r2, r3] at o3; cases o3
    · exact h
  exact ⟨r, by omega, e1.symm, e2.symm⟩
/-- every Pasch is found, from any two of its blocks -/
theorem pa_item {v : Int} {xs : List Blk} (hs : isSys v xs) {i j k m : Nat} (hi : i < xs.length) (hj : j < xs.length) (hk : k < xs.length) (hm : m < xs.length) (ij : i ≠ j) (ik : i ≠ k) (im : i ≠ m) (jk : j ≠ k) (jm : j ≠ m) (km : k ≠ m) (hp : paL xs [(i : Int), j, k, m])
    {a c e d f : Int} (hA : tri (nth xs i) a c e) (hB : tri (nth xs j) a d f) :
    ∃ K M b, (K = k ∧ M = m ∨ K = m ∧ M = k) ∧ 0 ≤ b ∧ hasB (nth xs K) c = true ∧ hasB (nth xs M) e = true ∧
      (hasB (nth xs K) f = true ∧ hasB (nth xs M) d = true ∧ third xs c f = b ∧ third xs d e = b ∨ hasB (nth xs K) d = true ∧ hasB (nth xs M) f = true ∧ third xs c d = b ∧ third xs f e = b) := by
  obtain ⟨n3, _, cik, cim, cjk, cjm, ckm⟩ := (pa_iff hs hi hj hk hm ij ik im jk jm km).1 hp
  obtain ⟨a1, a2, a3, a4, a5, a6, a7⟩ := hA
  obtain ⟨b1, b2, b3, b4, b5, b6, b7⟩ := hB
  have hab : ∀ p, hasB (nth xs i) p = true → hasB (nth xs j) p = true → p = a := fun p h3 h4 => by
    by_cases e1 : p = a
    · exact e1
    · exact absurd (uniq2 hs hi hj h3 a1 h4 b1 e1) ij
  have hcf : c ≠ f := fun h => a4 (hab c a2 (h ▸ b3)).symm
  have hcd : c ≠ d := fun h => a4 (hab c a2 (h ▸ b2)).symm
  have hde : d ≠ e := fun h => a5 (hab e a3 (h ▸ b2)).symm
  have hfe : f ≠ e := fun h => a5 (hab e a3 (h ▸ b3)).symm
  -- the main part, K with c, M with e
  have main : ∀ K M : Nat, K < xs.length → M < xs.length → (∀ p : Nat, p < 15 → bn (hasB (nth xs i) p) + bn (hasB (nth xs j) p) + bn (hasB (nth xs K) p) + bn (hasB (nth xs M) p) ≤ 2) → ctB xs j K → ctB xs j M → ctB xs K M → hasB (nth xs K) c = true → hasB (nth xs M) e = true →
      ∃ b, 0 ≤ b ∧ (hasB (nth xs K) f = true ∧ hasB (nth xs M) d = true ∧ third xs c f = b ∧ third xs d e = b ∨ hasB (nth xs K) d = true ∧ hasB (nth xs M) f = true ∧ third xs c d = b ∧ third xs f e = b) := by
    intro K M hK hM n4 cjK cjM cKM k1 m1
    obtain ⟨p, p1, p2, p3⟩ := cjK
    obtain ⟨q, q1, q2, q3⟩ := cjM
    obtain ⟨o1, o2, o3, o4⟩ := of3 _ _ _ _ (n4 p p1)
    obtain ⟨u1, u2, u3, u4⟩ := of3 _ _ _ _ (n4 q q1)
    rcases b7 p p2 with h | h | h
    · rw [h, a1, b1] at o1; rw [h] at p3; rw [p3] at o1; cases o1
    · rcases b7 q q2 with g | g | g
      · rw [g, a1, b1] at u2; rw [g] at q3; rw [q3] at u2; cases u2
      · rw [h, b2] at o4; rw [h] at p3; rw [g] at q3; rw [p3, q3] at o4; cases o4
      · rw [h] at p3; rw [g] at q3
        obtain ⟨b, h1, h2, h3⟩ := pa_turn hs hi hj hK hM (c := c) (e := e) (d := f) (f := d) n4 a2 a3 b3 b2 k1 p3 q3 m1 hcd hfe cKM
        exact ⟨b, h1, .inr ⟨p3, q3, h2, h3⟩⟩
    · rcases b7 q q2 with g | g | g
      · rw [g, a1, b1] at u2; rw [g] at q3; rw [q3] at u2; cases u2
      · rw [h] at p3; rw [g] at q3
        obtain ⟨b, h1, h2, h3⟩ := pa_turn hs hi hj hK hM (c := c) (e := e) (d := d) (f := f) n4 a2 a3 b2 b3 k1 p3 q3 m1 hcf hde cKM
        exact ⟨b, h1, .inl ⟨p3, q3, h2, h3⟩⟩
      · rw [h, b3] at o4; rw [h] at p3; rw [g] at q3; rw [p3, q3] at o4; cases o4
  obtain ⟨p, p1, p2, p3⟩ := cik
  obtain ⟨q, q1, q2, q3⟩ := cim
  obtain ⟨o1, o2, o3, o4⟩ := of3 _ _ _ _ (n3 p p1)
  obtain ⟨u1, u2, u3, u4⟩ := of3 _ _ _ _ (n3 q q1)
  have hsw : ∀ p : Nat, p < 15 → bn (hasB (nth xs i) p) + bn (hasB (nth xs j) p) + bn (hasB (nth xs m) p) + bn (hasB (nth xs k) p) ≤ 2 := fun p hp => by have := n3 p hp; omega
  have cmk : ctB xs m k := by obtain ⟨r, r1, r2, r3⟩ := ckm; exact ⟨r, r1, r3, r2⟩
  rcases a7 p p2 with h | h | h
  · rw [h, a1, b1] at o1; rw [h] at p3; rw [p3] at o1; cases o1
  · rcases a7 q q2 with g | g | g
    · rw [g, a1, b1] at u2; rw [g] at q3; rw [q3] at u2; cases u2
    · rw [h, a2] at o3; rw [h] at p3; rw [g] at q3; rw [p3, q3] at o3; cases o3
    · rw [h] at p3; rw [g] at q3
      obtain ⟨b, h1, h2⟩ := main k m hk hm n3 cjk cjm ckm p3 q3
      exact ⟨k, m, b, .inl ⟨rfl, rfl⟩, h1, p3, q3, h2⟩
  · rcases a7 q q2 with g | g | g
    · rw [g, a1, b1] at u2; rw [g] at q3; rw [q3] at u2; cases u2
    · rw [h] at p3; rw [g] at q3
      obtain ⟨b, h1, h2⟩ := main m k hm hk hsw cjm cjk cmk q3 p3
      exact ⟨m, k, b, .inr ⟨rfl, rfl⟩, h1, q3, p3, h2⟩
    · rw [h, a3] at o3; rw [h] at p3; rw [g] at q3; rw [p3, q3] at o3; cases o3

end Go.Proofs.Ytbknpflbafjblaa

/- Plain laws of Pasch: the reference's list and the program's count; conditions: stated in each. -/
namespace Go.Proofs.Ytbknpflbafjblaa
set_option linter.unusedSimpArgs false
set_option linter.unusedVariables false

/-- the first of a block's points that another has -/
def meetI (A B : Blk) : Int := if hasB B A.1 = true then A.1 else if hasB B A.2.1 = true then A.2.1 else if hasB B A.2.2 = true then A.2.2 else -1
/-- a block's other points -/
def othB (A : Blk) (a : Int) : Int × Int := if a = A.1 then (A.2.1, A.2.2) else if a = A.2.1 then (A.1, A.2.2) else (A.1, A.2.1)
theorem tri_oth {v : Int} {A : Blk} (hg : goodB v A = true) {a : Int} (h : hasB A a = true) : tri A a (othB A a).1 (othB A a).2 := by
  have hb := good_bd hg
  rw [has_iff] at h
  unfold othB
  rcases h with h | h | h
  · rw [if_pos h.symm]
    unfold tri
    simp only [has_iff]
    exact ⟨by omega, by simp, by simp, by omega, by omega, by omega, fun p hp => by omega⟩
  · rw [if_neg (by omega), if_pos h.symm]
    unfold tri
    simp only [has_iff]
    exact ⟨by omega, by simp, by simp, by omega, by omega, by omega, fun p hp => by omega⟩
  · rw [if_neg (by omega), if_neg (by omega)]
    unfold tri
    simp only [has_iff]
    exact ⟨by omega, by simp, by simp, by omega, by omega, by omega, fun p hp => by omega⟩
theorem meetI_has {v : Int} {A B : Blk} (hg : goodB v A = true) (h : 0 ≤ meetI A B) : hasB A (meetI A B) = true ∧ hasB B (meetI A B) = true := by
  unfold meetI at h ⊢
  by_cases h1 : hasB B A.1 = true
  · rw [if_pos h1]; exact ⟨has_iff.2 (by omega), h1⟩
  · rw [if_neg h1] at h ⊢
    by_cases h2 : hasB B A.2.1 = true
    · rw [if_pos h2]; exact ⟨has_iff.2 (by omega), h2⟩
    · rw [if_neg h2] at h ⊢
      by_cases h3 : hasB B A.2.2 = true
      · rw [if_pos h3]; exact ⟨has_iff.2 (by omega), h3⟩
      · rw [if_neg h3] at h; omega
theorem meetI_pos {v : Int} {A B : Blk} (hg : goodB v A = true) {p : Int} (h1 : hasB A p = true) (h2 : hasB B p = true) : 0 ≤ meetI A B := by
  have hb := good_bd hg
  rw [has_iff] at h1
  unfold meetI
  by_cases e1 : hasB B A.1 = true
  · rw [if_pos e1]; omega
  · rw [if_neg e1]
    by_cases e2 : hasB B A.2.1 = true
    · rw [if_pos e2]; omega
    · rw [if_neg e2]
      by_cases e3 : hasB B A.2.2 = true
      · rw [if_pos e3]; omega
      · exfalso
        rcases h1 with h | h | h
        · rw [← h] at h2; exact e1 h2
        · rw [← h] at h2; exact e2 h2
        · rw [← h] at h2; exact e3 h2
/-- the number of the first block that has two points -/
def numF (xs : List Blk) (p q : Int) : Nat → Nat → Int
  | 0, _ => -1
  | f + 1, i => if bothB (nth xs i) p q = true then (i : Int) else numF xs p q f (i + 1)
def numB (xs : List Blk) (p q : Int) : Int := numF xs p q xs.length 0
theorem numF_of {xs : List Blk} {p q : Int} {K : Nat} (hu : ∀ i, i ≤ K → bothB (nth xs i) p q = true → i = K) (hK : bothB (nth xs K) p q = true) : ∀ f i, i ≤ K → K < i + f → numF xs p q f i = K := by
  intro f
  induction f with
  | zero => intro i h1 h2; omega
  | succ f ih =>
    intro i h1 h2
    rw [numF]
    by_cases h : bothB (nth xs i) p q = true
    · rw [if_pos h, hu i h1 h]
    · rw [if_neg h]
      refine ih (i + 1) ?_ (by omega)
      by_cases e : i = K
      · subst e; exact absurd hK h
      · omega
theorem numB_of {v : Int} {xs : List Blk} (hs : isSys v xs) {K : Nat} (hK : K < xs.length) {p q : Int} (h1 : hasB (nth xs K) p = true) (h2 : hasB (nth xs K) q = true) (hne : p ≠ q) : numB xs p q = K := by
  refine numF_of (fun i hi hb => ?_) (by unfold bothB; rw [h1, h2]; rfl) xs.length 0 (by omega) (by omega)
  unfold bothB at hb
  rw [Bool.and_eq_true] at hb
  exact uniq2 hs (by omega) hK hb.1 hb.2 h1 h2 hne

/-- what one turn of the reference puts -/
def paIt (xs : List Blk) (i j : Nat) (c e d f : Int) (out : List (List Int)) : List (List Int) :=
  if 0 ≤ third xs c f ∧ third xs d e = third xs c f then putL out (srtI [(i : Int), j, numB xs c f, numB xs d e]) else out
/-- what one pair of blocks puts -/
def paPair (xs : List Blk) (i j : Nat) (out : List (List Int)) : List (List Int) :=
  let a := meetI (nth xs i) (nth xs j)
  if a < 0 then out else
    let A := othB (nth xs i) a
    let B := othB (nth xs j) a
    paIt xs i j A.1 A.2 B.2 B.1 (paIt xs i j A.1 A.2 B.1 B.2 out)
def paRow (xs : List Blk) (i : Nat) (out : List (List Int)) : Nat → List (List Int)
  | 0 => out
  | j + 1 => paPair xs i j (paRow xs i out j)
def paAll (xs : List Blk) : Nat → List (List Int)
  | 0 => []
  | i + 1 => paRow xs i (paAll xs i) i
theorem paIt_str {xs : List Blk} {i j : Nat} {c e d f : Int} {out : List (List Int)} (h : StrL out) : StrL (paIt xs i j c e d f out) ∧
    ∀ q, q ∈ paIt xs i j c e d f out ↔ ((0 ≤ third xs c f ∧ third xs d e = third xs c f) ∧ q = srtI [(i : Int), j, numB xs c f, numB xs d e]) ∨ q ∈ out := by
  unfold paIt
  by_cases hc : 0 ≤ third xs c f ∧ third xs d e = third xs c f
  · rw [if_pos hc]
    refine ⟨(putL_str h _).1, fun q => ?_⟩
    rw [(putL_str h _).2 q]
    simp [hc]
  · rw [if_neg hc]
    exact ⟨h, fun q => by simp [hc]⟩
/-- a list is found from a pair of blocks -/
def isIt (xs : List Blk) (i j : Nat) (q : List Int) : Prop :=
  0 ≤ meetI (nth xs i) (nth xs j) ∧ ∃ d f : Int, (d = (othB (nth xs j) (meetI (nth xs i) (nth xs j))).1 ∧ f = (othB (nth xs j) (meetI (nth xs i) (nth xs j))).2 ∨ d = (othB (nth xs j) (meetI (nth xs i) (nth xs j))).2 ∧ f = (othB (nth xs j) (meetI (nth xs i) (nth xs j))).1) ∧
    (0 ≤ third xs (othB (nth xs i) (meetI (nth xs i) (nth xs j))).1 f ∧ third xs d (othB (nth xs i) (meetI (nth xs i) (nth xs j))).2 = third xs (othB (nth xs i) (meetI (nth xs i) (nth xs j))).1 f) ∧
    q = srtI [(i : Int), j, numB xs (othB (nth xs i) (meetI (nth xs i) (nth xs j))).1 f, numB xs d (othB (nth xs i) (meetI (nth xs i) (nth xs j))).2]
theorem paPair_str {xs : List Blk} {i j : Nat} {out : List (List Int)} (h : StrL out) : StrL (paPair xs i j out) ∧ ∀ q, q ∈ paPair xs i j out ↔ isIt xs i j q ∨ q ∈ out := by
  unfold paPair isIt
  simp only
  by_cases ha : meetI (nth xs i) (nth xs j) < 0
  · rw [if_pos ha]
    exact ⟨h, fun q => ⟨.inr, fun hq => hq.elim (fun g => by omega) id⟩⟩
  · rw [if_neg ha]
    obtain ⟨s1, m1⟩ := paIt_str (xs := xs) (i := i) (j := j) (c := (othB (nth xs i) (meetI (nth xs i) (nth xs j))).1) (e := (othB (nth xs i) (meetI (nth xs i) (nth xs j))).2) (d := (othB (nth xs j) (meetI (nth xs i) (nth xs j))).1) (f := (othB (nth xs j) (meetI (nth xs i) (nth xs j))).2) h
    obtain ⟨s2, m2⟩ := paIt_str (xs := xs) (i := i) (j := j) (c := (othB (nth xs i) (meetI (nth xs i) (nth xs j))).1) (e := (othB (nth xs i) (meetI (nth xs i) (nth xs j))).2) (d := (othB (nth xs j) (meetI (nth xs i) (nth xs j))).2) (f := (othB (nth xs j) (meetI (nth xs i) (nth xs j))).1) s1
    refine ⟨s2, fun q => ?_⟩
    rw [m2, m1]
    constructor
    · rintro (⟨h1, h2⟩ | ⟨h1, h2⟩ | h1)
      · exact .inl ⟨by omega, _, _, .inr ⟨rfl, rfl⟩, h1, h2⟩
      · exact .inl ⟨by omega, _, _, .inl ⟨rfl, rfl⟩, h1, h2⟩
      · exact .inr h1
    · rintro (⟨_, d, f, ⟨rfl, rfl⟩ | ⟨rfl, rfl⟩, h1, h2⟩ | h1)
      · exact .inr (.inl ⟨h1, h2⟩)
      · exact .inl ⟨h1, h2⟩
      · exact .inr (.inr h1)
theorem paRow_str {xs : List Blk} {i : Nat} {out : List (List Int)} (h : StrL out) : ∀ n, StrL (paRow xs i out n) ∧ ∀ q, q ∈ paRow xs i out n ↔ (∃ j, j < n ∧ isIt xs i j q) ∨ q ∈ out := by
  intro n
  induction n with
  | zero => exact ⟨h, fun q => ⟨.inr, fun hq => hq.elim (fun ⟨j, hj, _⟩ => by omega) id⟩⟩
  | succ n ih =>
    obtain ⟨s, m⟩ := paPair_str (xs := xs) (i := i) (j := n) ih.1
    refine ⟨s, fun q => ?_⟩
    rw [paRow, m, ih.2]
    constructor
    · rintro (h1 | ⟨j, h1, h2⟩ | h1)
      · exact .inl ⟨n, by omega, h1⟩
      · exact .inl ⟨j, by omega, h2⟩
      · exact .inr h1
    · rintro (⟨j, h1, h2⟩ | h1)
      · by_cases e : j = n
        · subst e; exact .inl h2
        · exact .inr (.inl ⟨j, by omega, h2⟩)
      · exact .inr (.inr h1)
theorem paAll_str (xs : List Blk) : ∀ n, StrL (paAll xs n) ∧ ∀ q, q ∈ paAll xs n ↔ ∃ i j, j < i ∧ i < n ∧ isIt xs i j q := by
  intro n
  induction n with
  | zero => exact ⟨List.Pairwise.nil, fun q => ⟨fun h => by simp [paAll] at h, fun ⟨i, j, _, h, _⟩ => by omega⟩⟩
  | succ n ih =>
    obtain ⟨s, m⟩ := paRow_str (xs := xs) (i := n) ih.1 n
    refine ⟨s, fun q => ?_⟩
    rw [paAll, m, ih.2]
    constructor
    · rintro (⟨j, h1, h2⟩ | ⟨i, j, h1, h2, h3⟩)
      · exact ⟨n, j, h1, by omega, h2⟩
      · exact ⟨i, j, h1, by omega, h3⟩
    · rintro ⟨i, j, h1, h2, h3⟩
      by_cases e : i = n
      · subst e; exact .inl ⟨j, h1, h3⟩
      · exact .inr ⟨i, j, h1, by omega, h3⟩

/-- four ascending numbers of blocks that are a Pasch -/
def isPQ (xs : List Blk) (q : List Int) : Prop := ∃ w x y z : Nat, w < x ∧ x < y ∧ y < z ∧ z < xs.length ∧ q = [(w : Int), x, y, z] ∧ paL xs q
theorem srt4 {a b c d : Nat} (h1 : a < b) (h2 : b < c) (h3 : c < d) {l : List Int} (hp : [(a : Int), b, c, d].Perm l) : srtI l = [(a : Int), b, c, d] :=
  srtI_uniq hp (by unfold leI; simp only [List.pairwise_cons, List.mem_cons, decide_eq_true_eq]; simp; omega)
theorem sort4 {i j k m : Nat} (ij : i ≠ j) (ik : i ≠ k) (im : i ≠ m) (jk : j ≠ k) (jm : j ≠ m) (km : k ≠ m) {L : Nat} (hi : i < L) (hj : j < L) (hk : k < L) (hm : m < L) :
    ∃ w x y z : Nat, w < x ∧ x < y ∧ y < z ∧ z < L ∧ srtI [(i : Int), j, k, m] = [(w : Int), x, y, z] := by
  have hp := srtI_perm [(i : Int), j, k, m]
  have hs := srtI_sorted [(i : Int), j, k, m]
  have hl := hp.length_eq
  generalize srtI [(i : Int), j, k, m] = l at *
  match l, hl with
  | [a, b, c, d], _ =>
    have hn : [a, b, c, d].Nodup := hp.nodup_iff.2 (by simp; omega)
    have ha : ∀ x ∈ [a, b, c, d], 0 ≤ x ∧ x < (L : Int) := fun x hx => by
      have := hp.mem_iff.1 hx
      simp only [List.mem_cons, List.not_mem_nil, or_false] at this
      omega
    unfold leI at hs
    simp only [List.pairwise_cons, List.mem_cons, decide_eq_true_eq, List.not_mem_nil, or_false] at hs
    simp only [List.nodup_cons, List.mem_cons, List.not_mem_nil, or_false] at hn
    have h1 := ha a (by simp); have h2 := ha b (by simp); have h3 := ha c (by simp); have h4 := ha d (by simp)
    have l1 := hs.1 b (by simp); have l2 := hs.2.1 c (by simp); have l3 := hs.2.2.1 d (by simp)
    refine ⟨a.toNat, b.toNat, c.toNat, d.toNat, by omega, by omega, by omega, by omega, ?_⟩
    rw [Int.toNat_of_nonneg h1.1, Int.toNat_of_nonneg h2.1, Int.toNat_of_nonneg h3.1, Int.toNat_of_nonneg h4.1]
theorem isIt_PQ {v : Int} {xs : List Blk} (hs : isSys v xs) {i j : Nat} (hji : j < i) (hi : i < xs.length) {q : List Int} (h : isIt xs i j q) : isPQ xs q := by
  obtain ⟨h0, d, f, hdf, ⟨h1, h2⟩, rfl⟩ := h
  have gi := (hs.2.2.1 i hi).1
  have gj := (hs.2.2.1 j (by omega)).1
  obtain ⟨m1, m2⟩ := meetI_has gi h0
  have tA := tri_oth gi m1
  have tB := tri_oth gj m2
  generalize meetI (nth xs i) (nth xs j) = a at *
  generalize (othB (nth xs i) a).1 = c at *
  generalize (othB (nth xs i) a).2 = e at *
  have tB' : tri (nth xs j) a d f := by
    rcases hdf with ⟨rfl, rfl⟩ | ⟨rfl, rfl⟩
    · exact tB
    · exact ⟨tB.1, tB.2.2.1, tB.2.1, tB.2.2.2.2.1, tB.2.2.2.1, (fun h => tB.2.2.2.2.2.1 h.symm), fun p hp => by have := tB.2.2.2.2.2.2 p hp; omega⟩
  obtain ⟨K, M, k1, k2, k3, k4, k5, k6, k7, k8, k9, k10, k11, k12, k13, k14⟩ := item_pa hs hi (by omega) (by omega) tA tB' h1 rfl h2
  rw [numB_of hs k1 k3 k4 k7, numB_of hs k2 k5 k6 k8]
  obtain ⟨w, x, y, z, o1, o2, o3, o4, o5⟩ := sort4 (by omega : i ≠ j) k9 k10 k11 k12 k13 hi (by omega) k1 k2
  refine ⟨w, x, y, z, o1, o2, o3, o4, o5, ?_⟩
  exact (paL_perm (srtI_perm _)).2 k14
theorem PQ_isIt {v : Int} {xs : List Blk} (hs : isSys v xs) {q : List Int} (h : isPQ xs q) : ∃ i j, j < i ∧ i < xs.length ∧ isIt xs i j q := by
  obtain ⟨w, x, y, z, h1, h2, h3, h4, rfl, hp⟩ := h
  refine ⟨z, y, h3, h4, ?_⟩
  have hperm : [(w : Int), x, y, z].Perm [(z : Int), y, w, x] := by
    refine List.perm_iff_count.2 fun a => ?_
    simp only [List.count_cons, List.count_nil]; omega
  have hp2 := (paL_perm hperm).1 hp
  have gz := (hs.2.2.1 z h4).1
  have gy := (hs.2.2.1 y (by omega)).1
  obtain ⟨p, _, p1, p2⟩ := ((pa_iff hs h4 (by omega : y < xs.length) (by omega : w < xs.length) (by omega : x < xs.length) (by omega) (by omega) (by omega) (by omega) (by omega) (by omega)).1 hp2).2.1
  have h0 := meetI_pos gz p1 p2
  obtain ⟨m1, m2⟩ := meetI_has gz h0
  have tA := tri_oth gz m1
  have tB := tri_oth gy m2
  obtain ⟨K, M, b, hKM, hb, kc, me, hh⟩ := pa_item hs h4 (by omega : y < xs.length) (by omega : w < xs.length) (by omega : x < xs.length) (by omega) (by omega) (by omega) (by omega) (by omega) (by omega) hp2 tA tB
  refine ⟨h0, ?_⟩
  have hcd : (othB (nth xs z) (meetI (nth xs z) (nth xs y))).1 ≠ (othB (nth xs y) (meetI (nth xs z) (nth xs y))).1 ∧ (othB (nth xs z) (meetI (nth xs z) (nth xs y))).1 ≠ (othB (nth xs y) (meetI (nth xs z) (nth xs y))).2 ∧ (othB (nth xs z) (meetI (nth xs z) (nth xs y))).2 ≠ (othB (nth xs y) (meetI (nth xs z) (nth xs y))).1 ∧ (othB (nth xs z) (meetI (nth xs z) (nth xs y))).2 ≠ (othB (nth xs y) (meetI (nth xs z) (nth xs y))).2 := by
    have hab : ∀ p, hasB (nth xs z) p = true → hasB (nth xs y) p = true → p = meetI (nth xs z) (nth xs y) := fun p h5 h6 => by
      by_cases e1 : p = meetI (nth xs z) (nth xs y)
      · exact e1
      · exact absurd (uniq2 hs h4 (by omega) h5 m1 h6 m2 e1) (by omega)
    obtain ⟨a1, a2, a3, a4, a5, a6, a7⟩ := tA
    obtain ⟨b1, b2, b3, b4, b5, b6, b7⟩ := tB
    refine ⟨fun h => ?_, fun h => ?_, fun h => ?_, fun h => ?_⟩
    · exact a4 (hab _ a2 (h ▸ b2)).symm
    · exact a4 (hab _ a2 (h ▸ b3)).symm
    · exact a5 (hab _ a3 (h ▸ b2)).symm
    · exact a5 (hab _ a3 (h ▸ b3)).symm
  obtain ⟨n1, n2, n3, n4⟩ := hcd
  have hKl : K < xs.length := by omega
  have hMl : M < xs.length := by omega
  have hsrt : ([(w : Int), x, y, z]).Perm [(z : Int), y, K, M] := by
    rcases hKM with ⟨rfl, rfl⟩ | ⟨rfl, rfl⟩
    · exact hperm
    · refine List.perm_iff_count.2 fun a => ?_
      simp only [List.count_cons, List.count_nil]; omega
  rcases hh with ⟨k1, k2, k3, k4⟩ | ⟨k1, k2, k3, k4⟩
  · refine ⟨_, _, .inl ⟨rfl, rfl⟩, ⟨by rw [k3]; exact hb, by rw [k3, k4]⟩, ?_⟩
    rw [numB_of hs hKl kc k1 n2, numB_of hs hMl k2 me (fun h => n3 h.symm)]
    exact (srt4 h1 h2 h3 hsrt).symm
  · refine ⟨_, _, .inr ⟨rfl, rfl⟩, ⟨by rw [k3]; exact hb, by rw [k3, k4]⟩, ?_⟩
    rw [numB_of hs hKl kc k1 n1, numB_of hs hMl k2 me (fun h => n4 h.symm)]
    exact (srt4 h1 h2 h3 hsrt).symm
theorem paAll_mem {v : Int} {xs : List Blk} (hs : isSys v xs) (q : List Int) : q ∈ paAll xs xs.length ↔ isPQ xs q := by
  rw [(paAll_str xs _).2]
  exact ⟨fun ⟨i, j, h1, h2, h3⟩ => isIt_PQ hs h1 h2 h3, PQ_isIt hs⟩

end Go.Proofs.Ytbknpflbafjblaa

/- Contracts of common points, other points and numbers of blocks; conditions: stated in each. -/
namespace Go.Proofs.Ytbknpflbafjblaa
open Go.RowKit
set_option maxHeartbeats 400000
set_option maxRecDepth 100000
set_option linter.unusedSimpArgs false
set_option linter.unusedVariables false

theorem meetI_at {a b : Blk} {k : Nat} (hk : k < 3) (h : hasB b (el a k) = true) (hn : ∀ j, j < k → hasB b (el a j) = false) : meetI a b = el a k := by
  unfold meetI
  obtain rfl | rfl | rfl : k = 0 ∨ k = 1 ∨ k = 2 := by omega
  · simp [el] at h ⊢; simp [h]
  · have h0 := hn 0 (by omega); simp [el] at h h0 ⊢; simp [h, h0]
  · have h0 := hn 0 (by omega); have h1 := hn 1 (by omega); simp [el] at h h0 h1 ⊢; simp [h, h0, h1]
theorem meetI_none {a b : Blk} (hn : ∀ j, j < 3 → hasB b (el a j) = false) : meetI a b = -1 := by
  have h0 := hn 0 (by omega); have h1 := hn 1 (by omega); have h2 := hn 2 (by omega)
  unfold meetI; simp [el] at h0 h1 h2; simp [h0, h1, h2]
theorem l03Meet_any (a b : Blk) (w : World) :
    Calls Try.prog 125 #[.agg #[.int .i64 a.1, .int .i64 a.2.1, .int .i64 a.2.2], .agg #[.int .i64 b.1, .int .i64 b.2.1, .int .i64 b.2.2]] w fun e w' => e = .returned (.int .i64 (meetI a b)) ∧ Below w.heap.size w w' := by
  have HM := Lib.hid (fun k hk h hn => meetI_at (a := a) (b := b) (k := k) hk h hn)
  have HM0 := Lib.hid (meetI_none (a := a) (b := b))
  generalize meetI a b = M at *
  obtain ⟨HA, HB, HW⟩ := Box.two w a b 99
  replace HA := Lib.hid HA; replace HB := Lib.hid HB; replace HW := Lib.hid HW
  go_enter Try.func125, Try.ntmps125
  go_wp2
  generalize (w.alloc _).alloc _ = W at *
  go_loopw [5] (fun i wr => ∃ k : Nat, k ≤ 3 ∧ i = .int .i64 k ∧ Below W.heap.size W wr ∧ Hid (∀ j, j < k → hasB b (el a j) = false)) (fun i _ => 3 - (intOf i).toNat)
  case atStart => exact ⟨0, by omega, rfl, Below.refl _ _, fun i hi => by omega⟩
  case round =>
    obtain ⟨k, hk, rfl, hb, HC⟩ := hrel
    by_cases hlt : k < 3
    · have a0 := (HA.out.below hb).2 k hlt
      have sa := (HA.out.below hb).1
      obtain ⟨b0, b1, b2⟩ := (HB.out.below hb).three
      have sb := (HB.out.below hb).1
      cases hm : hasB b (el a k)
      · go_wp2
        refine wp_region_ge_lit (by kernel_rfl) (by kernel_rfl) ?_; (repeat (go_big_quiet_step ((go_at_call 158; exact ge_call (with_is hm _))))); refine wpQuiet_nil ?_
        rintro w1 ⟨x, rfl⟩
        go_wp2
        go_roundw
        case rel =>
          refine ⟨k + 1, by omega, by go_num, below_up hb (ge_below _ _), fun i hi => ?_⟩
          by_cases hij : i < k
          · exact HC.out i hij
          · obtain rfl : i = k := by omega
            exact hm
        case measure => simp [intOf]; omega
      · go_wp2
        refine wp_region_ge_lit (by kernel_rfl) (by kernel_rfl) ?_; (repeat (go_big_quiet_step ((go_at_call 158; exact ge_call (with_is hm _))))); refine wpQuiet_nil ?_
        rintro w1 ⟨x, rfl⟩
        go_wp2
        go_ret
        exact ⟨ret_int (HM.out k hlt hm HC.out).symm, below_up HW.out (below_up hb (ge_below _ _))⟩
    · obtain rfl : k = 3 := by omega
      go_wp2
      go_ret
      exact ⟨ret_int (HM0.out HC.out).symm, below_up HW.out hb⟩

theorem l03Others_any (b : Blk) (a : Int) (w : World) :
    Calls Try.prog 126 #[.agg #[.int .i64 b.1, .int .i64 b.2.1, .int .i64 b.2.2], .int .i64 a] w fun e w' => e = .returned (.tuple #[.int .i64 (othB b a).1, .int .i64 (othB b a).2]) ∧ Below w.heap.size w w' := by
  have HB := Lib.hid (Box.new w b 99)
  have HW := Lib.hid (below_alloc w (.cells #[.int .i64 b.1, .int .i64 b.2.1, .int .i64 b.2.2] 99))
  have HO : Hid (othB b a = if a = b.1 then (b.2.1, b.2.2) else if a = b.2.1 then (b.1, b.2.2) else (b.1, b.2.1)) := rfl
  generalize othB b a = M at *
  go_enter Try.func126, Try.ntmps126
  obtain ⟨b0, b1, b2⟩ := HB.out.three
  have sb := HB.out.1
  by_cases h0 : a = b.1
  · have h0' : (a == b.1) = true := by simpa using h0
    have H := Lib.hid h0; clear h0
    go_wp2
    refine wp_region_ge_lit (by kernel_rfl) (by kernel_rfl) ?_; (repeat (go_big_quiet_step (fail))); refine wpQuiet_nil ?_
    rintro w1 ⟨x, rfl⟩
    go_wp2
    go_ret2
    exact ⟨by rw [HO.out, if_pos H.out]; try rfl, by first | exact HW.out | exact below_up HW.out (ge_below _ _)⟩
  · have h0' : (a == b.1) = false := by simpa using h0
    have H := Lib.hid h0; clear h0
    by_cases h1 : a = b.2.1
    · have h1' : (a == b.2.1) = true := by simpa using h1
      have H1 := Lib.hid h1; clear h1
      go_wp2
      refine wp_region_ge_lit (by kernel_rfl) (by kernel_rfl) ?_; (repeat (go_big_quiet_step (fail))); refine wpQuiet_nil ?_
      rintro w1 ⟨x, rfl⟩
      go_wp2
      go_ret2
      exact ⟨by rw [HO.out, if_neg H.out, if_pos H1.out]; try rfl, by first | exact HW.out | exact below_up HW.out (ge_below _ _)⟩
    · have h1' : (a == b.2.1) = false := by simpa using h1
      have H1 := Lib.hid h1; clear h1
      go_wp2
      refine wp_region_ge_lit (by kernel_rfl) (by kernel_rfl) ?_; (repeat (go_big_quiet_step (fail))); refine wpQuiet_nil ?_
      rintro w1 ⟨x, rfl⟩
      go_wp2
      go_ret2
      exact ⟨by rw [HO.out, if_neg H.out, if_neg H1.out]; try rfl, by first | exact HW.out | exact below_up HW.out (ge_below _ _)⟩

theorem numB_at {xs : List Blk} {p q : Int} {K : Nat} (hK : K < xs.length) (h : bothB (nth xs K) p q = true) (hn : ∀ j, j < K → bothB (nth xs j) p q = false) : numB xs p q = K :=
  numF_of (fun i hi hb => by
    by_cases e : i = K
    · exact e
    · rw [hn i (by omega)] at hb; cases hb) h xs.length 0 (by omega) (by omega)
theorem numF_none {xs : List Blk} {p q : Int} : ∀ f i, (∀ j, j < i + f → bothB (nth xs j) p q = false) → numF xs p q f i = -1 := by
  intro f
  induction f with
  | zero => intro i _; rfl
  | succ f ih =>
    intro i h
    rw [numF, h i (by omega), if_neg (by simp)]
    exact ih (i + 1) fun j hj => h j (by omega)
theorem numB_none {xs : List Blk} {p q : Int} (hn : ∀ j, j < xs.length → bothB (nth xs j) p q = false) : numB xs p q = -1 := numF_none xs.length 0 fun j hj => hn j (by omega)

theorem l03Number_any (v : Int) (A : Option Addr) (c : Nat) (xs : List Blk) (p q : Int) (w : World) (hA : Bl w A xs) (hl : xs.length ≤ 1048576) :
    Calls Try.prog 130 #[.agg #[.int .i64 v, .slice A xs.length c], .int .i64 p, .int .i64 q] w fun e w' => e = .returned (.int .i64 (numB xs p q)) ∧ Below w.heap.size w w' := by
  have HA := Lib.hid (hA.below (below_alloc w (.cells #[.int .i64 v, .slice A xs.length c] 30)))
  have HR := Lib.hid (Row.box w 30 (.int .i64 v) (.slice A xs.length c))
  have HW := Lib.hid (below_alloc w (.cells #[.int .i64 v, .slice A xs.length c] 30))
  have HM := Lib.hid (fun k hk h hn => numB_at (xs := xs) (p := p) (q := q) (K := k) hk h hn)
  have HM0 := Lib.hid (numB_none (xs := xs) (p := p) (q := q))
  generalize numB xs p q = M at *
  clear hA
  go_enter Try.func130, Try.ntmps130
  go_wp2
  generalize w.alloc _ = W at *
  go_loopw [7] (fun i wr => ∃ k : Nat, k ≤ xs.length ∧ i = .int .i64 k ∧ Below W.heap.size W wr ∧ Hid (∀ j, j < k → bothB (nth xs j) p q = false)) (fun i _ => xs.length - (intOf i).toNat)
  case atStart => exact ⟨0, by omega, rfl, Below.refl _ _, fun i hi => by omega⟩
  case round =>
    obtain ⟨k, hk, rfl, hb, HC⟩ := hrel
    obtain ⟨c0, c1⟩ := (HR.out.below hb).c2
    have hsz := (HR.out.below hb).lt
    by_cases hlt : k < xs.length
    · obtain ⟨b1, o1, hA1, hb1, p0, p1, p2⟩ := (HA.out.below hb).at_ hlt
      subst hA1
      have HB := Lib.hid hb
      have HR1 := Lib.hid (HR.out.below hb)
      have HA1 := Lib.hid (HA.out.below hb)
      clear hb
      cases h1 : hasB (nth xs k) p
      · go_wp2_with fail
        refine (with_is h1 _).mono ?_
        rintro e w1 ⟨rfl, hb⟩
        replace HB := Lib.hid (below_up HB.out hb); clear hb
        go_wp2
        go_roundw
        case rel =>
          refine ⟨k + 1, by omega, by go_num, HB.out, fun i hi => ?_⟩
          by_cases hij : i < k
          · exact HC.out i hij
          · obtain rfl : i = k := by omega
            unfold bothB; rw [h1]; rfl
        case measure => simp [intOf]; omega
      · cases h2 : hasB (nth xs k) q
        · go_wp2_with fail
          refine (with_is h1 _).mono ?_
          rintro e w1 ⟨rfl, hb⟩
          replace HB := Lib.hid (below_up HB.out hb)
          clear p0 p1 p2 c0 c1
          obtain ⟨c0, c1⟩ := (HR1.out.below hb).c2
          have hsz := (HR1.out.below hb).lt
          obtain ⟨b3, o3, hA3, hb3, p0, p1, p2⟩ := (HA1.out.below hb).at_ hlt
          simp only [Option.some.injEq, Addr.mk.injEq] at hA3
          obtain ⟨rfl, rfl, -⟩ := hA3
          clear hb
          go_wp2_with fail
          refine (with_is h2 _).mono ?_
          rintro e w2 ⟨rfl, hb⟩
          replace HB := Lib.hid (below_up HB.out hb); clear hb
          go_wp2
          go_roundw
          case rel =>
            refine ⟨k + 1, by omega, by go_num, HB.out, fun i hi => ?_⟩
            by_cases hij : i < k
            · exact HC.out i hij
            · obtain rfl : i = k := by omega
              unfold bothB; rw [h1, h2]; rfl
          case measure => simp [intOf]; omega
        · go_wp2_with fail
          refine (with_is h1 _).mono ?_
          rintro e w1 ⟨rfl, hb⟩
          replace HB := Lib.hid (below_up HB.out hb)
          clear p0 p1 p2 c0 c1
          obtain ⟨c0, c1⟩ := (HR1.out.below hb).c2
          have hsz := (HR1.out.below hb).lt
          obtain ⟨b3, o3, hA3, hb3, p0, p1, p2⟩ := (HA1.out.below hb).at_ hlt
          simp only [Option.some.injEq, Addr.mk.injEq] at hA3
          obtain ⟨rfl, rfl, -⟩ := hA3
          clear hb
          go_wp2_with fail
          refine (with_is h2 _).mono ?_
          rintro e w2 ⟨rfl, hb⟩
          replace HB := Lib.hid (below_up HB.out hb); clear hb
          go_wp2
          go_ret
          exact ⟨ret_int (HM.out k hlt (by unfold bothB; rw [h1, h2]; rfl) HC.out).symm, below_up HW.out HB.out⟩
    · obtain rfl : k = xs.length := by omega
      go_wp2
      go_ret
      exact ⟨ret_int (HM0.out HC.out).symm, below_up HW.out hb⟩

end Go.Proofs.Ytbknpflbafjblaa

/- Plain laws of Pasch: how long the reference's list is, and the program's list; conditions: stated in each. -/
namespace Go.Proofs.Ytbknpflbafjblaa
set_option linter.unusedSimpArgs false
set_option linter.unusedVariables false

/-- at most n lists, each of four -/
def PB (L : List (List Int)) (n : Nat) : Prop := L.length ≤ n ∧ ∀ x ∈ L, x.length = 4
theorem PB.mono {L : List (List Int)} {m n : Nat} (h : PB L m) (hn : m ≤ n) : PB L n := ⟨Nat.le_trans h.1 hn, h.2⟩
theorem PB.put {L : List (List Int)} {n : Nat} (h : PB L n) {y : List Int} (hy : y.length = 4) : PB (putL L y) (n + 1) := by
  unfold putL
  split
  · exact h.mono (Nat.le_succ _)
  · refine ⟨?_, fun x hx => ?_⟩
    · have := h.1
      simp only [List.length_append, List.length_take, List.length_drop, List.length_singleton]; omega
    · rw [List.mem_append, List.mem_append, List.mem_singleton] at hx
      rcases hx with (hx | hx) | hx
      · exact h.2 x (List.mem_of_mem_take hx)
      · rw [hx]; exact hy
      · exact h.2 x (List.mem_of_mem_drop hx)
theorem PB.it {xs : List Blk} {i j : Nat} {c e d f : Int} {L : List (List Int)} {n : Nat} (h : PB L n) : PB (paIt xs i j c e d f L) (n + 1) := by
  unfold paIt
  split
  · exact h.put (by rw [srtI_len]; rfl)
  · exact h.mono (Nat.le_succ _)
/-- the two turns: what d, f and the list are -/
def trn (xs : List Blk) (i j : Nat) (c e d f : Int) (out : List (List Int)) : Nat → Int × Int × List (List Int)
  | 0 => (d, f, out)
  | t + 1 => ((trn xs i j c e d f out t).2.1, (trn xs i j c e d f out t).1, paIt xs i j c e (trn xs i j c e d f out t).1 (trn xs i j c e d f out t).2.1 (trn xs i j c e d f out t).2.2)
theorem PB.trn {xs : List Blk} {i j : Nat} {c e d f : Int} {L : List (List Int)} {n : Nat} (h : PB L n) : ∀ t, PB (trn xs i j c e d f L t).2.2 (n + t)
  | 0 => h
  | t + 1 => (PB.trn h t).it
theorem trn_df (xs : List Blk) (i j : Nat) (c e d f : Int) (out : List (List Int)) : ∀ t, ((trn xs i j c e d f out t).1 = d ∨ (trn xs i j c e d f out t).1 = f) ∧ ((trn xs i j c e d f out t).2.1 = d ∨ (trn xs i j c e d f out t).2.1 = f)
  | 0 => ⟨.inl rfl, .inr rfl⟩
  | t + 1 => by
    have h := trn_df xs i j c e d f out t
    exact ⟨h.2, h.1⟩
theorem PB.pair {xs : List Blk} {i j : Nat} {L : List (List Int)} {n : Nat} (h : PB L n) : PB (paPair xs i j L) (n + 2) := by
  unfold paPair
  simp only
  split
  · exact h.mono (by omega)
  · exact h.it.it
theorem PB.row {xs : List Blk} {i : Nat} {L : List (List Int)} {n : Nat} (h : PB L n) : ∀ j, PB (paRow xs i L j) (n + 2 * j)
  | 0 => h
  | j + 1 => (PB.row h j).pair.mono (by omega)
theorem PB.all {xs : List Blk} : ∀ i, i ≤ 35 → PB (paAll xs i) (70 * i)
  | 0, _ => ⟨Nat.le_refl _, fun x hx => by simp [paAll] at hx⟩
  | i + 1, h => ((PB.all i (by omega)).row i).mono (by omega)

/-- lists of parts, joined -/
def colL {α : Type} (f : Nat → List α) : Nat → List α
  | 0 => []
  | n + 1 => colL f n ++ f n
theorem mem_colL {α : Type} {f : Nat → List α} {x : α} : ∀ n, x ∈ colL f n ↔ ∃ i, i < n ∧ x ∈ f i := by
  intro n
  induction n with
  | zero => simp [colL]
  | succ n ih =>
    rw [colL, List.mem_append, ih]
    constructor
    · rintro (⟨i, h1, h2⟩ | h)
      · exact ⟨i, by omega, h2⟩
      · exact ⟨n, by omega, h⟩
    · rintro ⟨i, h1, h2⟩
      by_cases e : i = n
      · subst e; exact .inr h2
      · exact .inl ⟨i, by omega, h2⟩
theorem colL_nil {α : Type} {f : Nat → List α} : ∀ n, (∀ i, i < n → f i = []) → colL f n = [] := by
  intro n
  induction n with
  | zero => intro _; rfl
  | succ n ih => intro h; rw [colL, ih (fun i hi => h i (by omega)), h n (by omega)]; rfl
theorem colL_len {α : Type} {f : Nat → List α} {B : Nat} (h : ∀ i, (f i).length ≤ B) : ∀ n, (colL f n).length ≤ n * B := by
  intro n
  induction n with
  | zero => simp [colL]
  | succ n ih => have := h n; rw [colL, List.length_append, Nat.succ_mul]; omega
theorem colL_nodup {α : Type} {f : Nat → List α} (g : α → Int) (hd : ∀ i, (f i).Nodup) (hg : ∀ i, ∀ x ∈ f i, g x = i) : ∀ n, (colL f n).Nodup := by
  intro n
  induction n with
  | zero => exact List.nodup_nil
  | succ n ih =>
    rw [colL, List.nodup_append]
    refine ⟨ih, hd n, fun x hx y hy e => ?_⟩
    subst e
    obtain ⟨i, h1, h2⟩ := (mem_colL n).1 hx
    have := hg i x h2
    have := hg n x hy
    omega
/-- the blocks are a Pasch -/
noncomputable def paB (xs : List Blk) (q : List Int) : Bool := @decide (paL xs q) (Classical.propDecidable _)
theorem paB_iff {xs : List Blk} {q : List Int} : paB xs q = true ↔ paL xs q := @decide_eq_true_iff _ (Classical.propDecidable _)
noncomputable def pr4 (xs : List Blk) (i j k m : Nat) : List (List Int) := if k < m ∧ paB xs [(i : Int), j, k, m] = true then [[(i : Int), j, k, m]] else []
noncomputable def pr3 (xs : List Blk) (i j k : Nat) : List (List Int) := if j < k ∧ meetB (nth xs i) (nth xs k) = true ∧ meetB (nth xs j) (nth xs k) = true then colL (pr4 xs i j k) xs.length else []
noncomputable def pr2 (xs : List Blk) (i j : Nat) : List (List Int) := if i < j ∧ meetB (nth xs i) (nth xs j) = true then colL (pr3 xs i j) xs.length else []
noncomputable def pr1 (xs : List Blk) (i : Nat) : List (List Int) := colL (pr2 xs i) xs.length
/-- the program's list -/
noncomputable def psA (xs : List Blk) : List (List Int) := colL (pr1 xs) xs.length
theorem pr4_mem {xs : List Blk} {i j k m : Nat} {x : List Int} : x ∈ pr4 xs i j k m ↔ k < m ∧ paB xs [(i : Int), j, k, m] = true ∧ x = [(i : Int), j, k, m] := by
  unfold pr4
  split <;> simp_all
theorem pr3_mem {xs : List Blk} {i j k : Nat} {x : List Int} : x ∈ pr3 xs i j k ↔ (j < k ∧ meetB (nth xs i) (nth xs k) = true ∧ meetB (nth xs j) (nth xs k) = true) ∧ ∃ m, m < xs.length ∧ k < m ∧ paB xs [(i : Int), j, k, m] = true ∧ x = [(i : Int), j, k, m] := by
  unfold pr3
  split
  · next h => rw [mem_colL]; simp only [pr4_mem]; exact ⟨fun g => ⟨h, g⟩, fun g => g.2⟩
  · next h => exact ⟨fun g => by simp at g, fun g => absurd g.1 h⟩
theorem pr2_mem {xs : List Blk} {i j : Nat} {x : List Int} : x ∈ pr2 xs i j ↔ (i < j ∧ meetB (nth xs i) (nth xs j) = true) ∧ ∃ k, k < xs.length ∧ x ∈ pr3 xs i j k := by
  unfold pr2
  split
  · next h => rw [mem_colL]; exact ⟨fun g => ⟨h, g⟩, fun g => g.2⟩
  · next h => exact ⟨fun g => by simp at g, fun g => absurd g.1 h⟩
theorem psA_mem {xs : List Blk} {x : List Int} : x ∈ psA xs ↔ ∃ i j k m : Nat, i < j ∧ j < k ∧ k < m ∧ m < xs.length ∧ meetB (nth xs i) (nth xs j) = true ∧ meetB (nth xs i) (nth xs k) = true ∧ meetB (nth xs j) (nth xs k) = true ∧ paB xs [(i : Int), j, k, m] = true ∧ x = [(i : Int), j, k, m] := by
  unfold psA pr1
  rw [mem_colL]
  simp only [mem_colL, pr2_mem, pr3_mem]
  constructor
  · rintro ⟨i, h1, j, h2, ⟨h3, h4⟩, k, h5, ⟨h6, h7, h8⟩, m, h9, h10, h11, h12⟩
    exact ⟨i, j, k, m, h3, h6, h10, h9, h4, h7, h8, h11, h12⟩
  · rintro ⟨i, j, k, m, h3, h6, h10, h9, h4, h7, h8, h11, h12⟩
    exact ⟨i, by omega, j, by omega, ⟨h3, h4⟩, k, by omega, ⟨h6, h7, h8⟩, m, h9, h10, h11, h12⟩
theorem psA_nodup (xs : List Blk) : (psA xs).Nodup := by
  have n4 : ∀ i j k m, (pr4 xs i j k m).Nodup := fun i j k m => by unfold pr4; split <;> simp
  have n3 : ∀ i j k, (pr3 xs i j k).Nodup := fun i j k => by
    unfold pr3
    split
    · refine colL_nodup (fun x => nthI x 3) (n4 i j k) (fun m x hx => ?_) _
      obtain ⟨_, _, rfl⟩ := pr4_mem.1 hx; rfl
    · exact List.nodup_nil
  have n2 : ∀ i j, (pr2 xs i j).Nodup := fun i j => by
    unfold pr2
    split
    · refine colL_nodup (fun x => nthI x 2) (n3 i j) (fun k x hx => ?_) _
      obtain ⟨_, m, _, _, _, rfl⟩ := pr3_mem.1 hx; rfl
    · exact List.nodup_nil
  have n1 : ∀ i, (pr1 xs i).Nodup := fun i => by
    refine colL_nodup (fun x => nthI x 1) (n2 i) (fun j x hx => ?_) _
    obtain ⟨_, k, _, hx⟩ := pr2_mem.1 hx
    obtain ⟨_, m, _, _, _, rfl⟩ := pr3_mem.1 hx; rfl
  refine colL_nodup (fun x => nthI x 0) n1 (fun i x hx => ?_) _
  obtain ⟨j, _, hx⟩ := (mem_colL _).1 hx
  obtain ⟨_, k, _, hx⟩ := pr2_mem.1 hx
  obtain ⟨_, m, _, _, _, rfl⟩ := pr3_mem.1 hx; rfl
theorem pr4_len (xs : List Blk) (i j k m : Nat) : (pr4 xs i j k m).length ≤ 1 := by unfold pr4; split <;> simp
theorem pr3_len {xs : List Blk} (hx : xs.length ≤ 35) (i j k : Nat) : (pr3 xs i j k).length ≤ 35 := by
  unfold pr3
  split
  · exact Nat.le_trans (colL_len (pr4_len xs i j k) _) (by omega)
  · simp
theorem pr2_len {xs : List Blk} (hx : xs.length ≤ 35) (i j : Nat) : (pr2 xs i j).length ≤ 1225 := by
  unfold pr2
  split
  · exact Nat.le_trans (colL_len (pr3_len hx i j) _) (by omega)
  · simp
theorem pr1_len {xs : List Blk} (hx : xs.length ≤ 35) (i : Nat) : (pr1 xs i).length ≤ 42875 := by
  unfold pr1
  exact Nat.le_trans (colL_len (pr2_len hx i) _) (by omega)
theorem ctB_meet {v : Int} {xs : List Blk} (hs : isSys v xs) {i j : Nat} (hi : i < xs.length) (h : ctB xs i j) : meetB (nth xs i) (nth xs j) = true := by
  obtain ⟨p, _, h1, h2⟩ := h
  have h3 := has_iff.1 h1
  unfold meetB
  rcases h3 with e | e | e
  · rw [e, h2]; rfl
  · rw [e, h2]; simp
  · rw [e, h2]; simp
/-- the two lists have as many -/
theorem pasch_len {v : Int} {xs : List Blk} (hs : isSys v xs) : (paAll xs xs.length).length = (psA xs).length := by
  refine same_len (paAll_str xs _).1.nodup (psA_nodup xs) fun q => ?_
  rw [paAll_mem hs, psA_mem]
  unfold isPQ
  constructor
  · rintro ⟨w, x, y, z, h1, h2, h3, h4, rfl, h5⟩
    obtain ⟨_, c1, c2, c3, c4, c5, c6⟩ := (pa_iff hs (by omega : w < xs.length) (by omega : x < xs.length) (by omega : y < xs.length) h4 (by omega) (by omega) (by omega) (by omega) (by omega) (by omega)).1 h5
    exact ⟨w, x, y, z, h1, h2, h3, h4, ctB_meet hs (by omega) c1, ctB_meet hs (by omega) c2, ctB_meet hs (by omega) c4, paB_iff.2 h5, rfl⟩
  · rintro ⟨i, j, k, m, h1, h2, h3, h4, h5, h6, h7, h8, rfl⟩
    exact ⟨i, j, k, m, h1, h2, h3, h4, rfl, paB_iff.1 h8⟩

end Go.Proofs.Ytbknpflbafjblaa

/- The contract of the reference's list in order; conditions: stated in it. -/
namespace Go.Proofs.Ytbknpflbafjblaa
open Go.RowKit
set_option maxHeartbeats 1000000
set_option maxRecDepth 100000
set_option linter.unusedSimpArgs false
set_option linter.unusedVariables false

theorem Ro.set {w : World} {base g n c k : Nat} {xs : List Int} (h : Ro w base (.slice (some ⟨g, 0, none⟩) n c) xs) (b : Int) :
    Ro (w.setCell ⟨g, k, none⟩ (.int .i64 b)) base (.slice (some ⟨g, 0, none⟩) n c) (xs.set k b) := by
  obtain ⟨_, _, e⟩ := own_slice h
  simp only [Value.slice.injEq] at e
  obtain ⟨_, rfl, _⟩ := e
  have := World.ownsRow.stored h k (.int .i64 b)
  unfold Ro
  rw [List.map_set, List.length_set]
  exact this.1
theorem Ro.frozen {w : World} {base g n c : Nat} {xs : List Int} (h : Ro w base (.slice (some ⟨g, 0, none⟩) n c) xs) (i : Nat) : w.frozen? ⟨g, i, none⟩ = false := by
  obtain ⟨_, _, e⟩ := own_slice h
  simp only [Value.slice.injEq] at e
  obtain ⟨_, rfl, _⟩ := e
  exact World.ownsRow.frozenAt h i
theorem Ro.at_ {w : World} {base g n c k : Nat} {xs : List Int} (h : Ro w base (.slice (some ⟨g, 0, none⟩) n c) xs) (hk : k < xs.length) : w.cell? ⟨g, k, none⟩ = some (.int .i64 (nthI xs k)) ∧ g < w.heap.size ∧ base ≤ g := by
  obtain ⟨g', c', e, h1, h2, h3⟩ := Ro.form h (by omega)
  simp only [Value.slice.injEq, Option.some.injEq, Addr.mk.injEq] at e
  obtain ⟨⟨rfl, -, -⟩, -, -⟩ := e
  exact ⟨h3 k hk, h2, h1⟩
theorem Ro.snoc {w : World} {base : Nat} {v : Value} {xs : List Int} {b : Int} (h : w.ownsRow base 2 1 v (xs.length + 1) (xs.map (Value.int .i64) ++ [.int .i64 b])) : Ro w base v (xs ++ [b]) := by
  unfold Ro; simpa using h
/-- the list of the numbers in order -/
theorem l03Asc_any (A : Option Addr) (c : Nat) (xs : List Int) (w : World) (hA : Il w A xs) (hl : xs.length ≤ 1048576) :
    Calls Try.prog 129 #[.slice A xs.length c] w fun e w' => ∃ u, e = .returned u ∧ Ro w' w.heap.size u (srtI xs) ∧ Below w.heap.size w w' := by
  obtain ⟨ni0, hni, hni0, hni1, hni2⟩ := info_parts infoInt'
  have HE : Hid (Ro (w.alloc (.cells #[] 2)) w.heap.size (.slice (some ⟨w.heap.size, 0, none⟩) 0 0) (srtI (xs.take 0))) := by
    have : srtI (xs.take 0) = [] := srtI_self List.Pairwise.nil
    unfold Hid; rw [this]; exact own_empty _ _ _
  have HB0 := Lib.hid (below_alloc w (.cells #[] 2))
  have HA := Lib.hid hA; clear hA
  go_enter Try.func129, Try.ntmps129
  go_wp2
  go_loopw [3, 4] (fun u i wr => ∃ k : Nat, k ≤ xs.length ∧ i = .int .i64 k ∧ Hid (Below w.heap.size w wr ∧ Ro wr w.heap.size u (srtI (xs.take k)))) (fun _ i _ => xs.length - (intOf i).toNat)
  case atStart => exact ⟨0, by omega, rfl, HB0.out, HE.out⟩
  case round =>
    obtain ⟨k, hk, rfl, HC⟩ := hrel
    have HSL : Hid ((srtI (xs.take k)).length = k) := by unfold Hid; rw [srtI_len, List.length_take]; omega
    have HSS := Lib.hid (srtI_sorted (xs.take k))
    have HNX : Hid (k < xs.length → srtI (srtI (xs.take k) ++ [nthI xs k]) = srtI (xs.take (k + 1))) := fun h => by rw [srtI_app, takeI_next h]
    generalize hS : srtI (xs.take k) = S at *
    have HSEQ : Hid (k = xs.length → S = srtI xs) := fun h => by rw [← hS, h, List.take_length]
    clear hS
    by_cases hlt : k < xs.length
    · obtain ⟨b1, o1, hA1, hb1, p0⟩ := (HA.out.below HC.out.1).at_ hlt
      subst hA1
      have HSN := Lib.hid (HNX.out hlt)
      generalize hxk : nthI xs k = b at *
      have HXK := Lib.hid hxk
      clear hxk
      have hsl := HSL.out
      obtain ⟨A3, c3, hu3⟩ := own_slice HC.out.2
      subst hu3
      rw [hsl]
      have HO : Hid (wr.ownsRow w.heap.size 2 1 (.slice A3 S.length c3) S.length (S.map (Value.int .i64))) := HC.out.2
      have HBW := Lib.hid HC.out.1
      rw [hsl] at HO
      clear hsl
      have hbw_ := HBW.out.size; go_wp2_with (at_builtin; refine wpList_append_own _ rfl _ _ 42 rfl (w).heap.size 2 ni0 (.int .i64 0) 1 8 Try.underlying42 hni hni0 hni1 hni2 rfl (by decide) _ _ _ rfl (HO.out.alloc _) ⟨(wr).heap.size, 0, none⟩ 1 1 [.int .i64 (b)] rfl rfl (cells_new _ _ _) (by simp [Value.oneCell']) (by unfold maxLen; omega) (by omega) (by simp; omega) ?_; intro v2 w2 hown2 hg2 _); have HO2 := Lib.hid hown2; have HB3 : Hid (Below (w).heap.size (w) w2) := (HBW.out.alloc HBW.out.size _).grown hg2 (by simp; omega) (own_block HO.out); clear hown2 hg2 hbw_
      have HRN : Hid (Ro w2 w.heap.size v2 (S ++ [b])) := Ro.snoc (by have := HO2.out; rw [HSL.out]; exact this)
      obtain ⟨g, c2, hv2, hge, hglt, _⟩ := HRN.out.form (by simp)
      have hl1 : (S ++ [b]).length = k + 1 := by rw [List.length_append, HSL.out]; rfl
      rw [hl1] at hv2
      subst hv2
      have HGE : Hid (w.heap.size ≤ g) := hge
      have HB3' : Hid (Below w.heap.size w w2) := HB3.out
      have HST0 : Hid (Ro w2 w.heap.size (.slice (some ⟨g, 0, none⟩) (k + 1) c2) (S.take k ++ [b] ++ S.drop k)) := by
        have h1 : S.take k = S := List.take_of_length_le (by rw [HSL.out]; omega)
        have h2 : S.drop k = [] := List.drop_of_length_le (by rw [HSL.out]; omega)
        unfold Hid; rw [h1, h2, List.append_nil]; exact HRN.out
      clear HRN HO2 HB3 HO HC HBW hl1 p0
      go_loopw [5] (fun a wq => ∃ (t : Nat) (j : Int), t ≤ k ∧ a = .int .i64 t ∧ Hid (Below w.heap.size w wq ∧ Ro wq w.heap.size (.slice (some ⟨g, 0, none⟩) (k + 1) c2) (S.take t ++ [j] ++ S.drop t) ∧ ∀ i, t ≤ i → i < k → b < nthI S i)) (fun a _ => (intOf a).toNat)
      case atStart => exact ⟨k, b, by omega, rfl, HB3'.out, HST0.out, fun i h1 h2 => by omega⟩
      case round =>
        obtain ⟨t, j, ht, rfl, HD⟩ := hrel
        obtain ⟨wq, rfl⟩ : ∃ wq : World, wq = wr := ⟨_, rfl⟩
        obtain ⟨b2, o2, hA2, hb2, p0⟩ := (HA.out.below HD.out.1).at_ hlt
        simp only [Option.some.injEq, Addr.mk.injEq] at hA2
        obtain ⟨rfl, rfl, -⟩ := hA2
        rw [HXK.out] at p0
        by_cases ht0 : 0 < t
        · obtain ⟨r0, hgl, -⟩ := HD.out.2.1.at_ (k := t - 1) (by rw [midI_len, HSL.out]; omega)
          have HMN : Hid (nthI (S.take t ++ [j] ++ S.drop t) (t - 1) = nthI S (t - 1)) := midI_nth (by rw [HSL.out]; omega) (by omega)
          rw [HMN.out] at r0
          by_cases hbf : b < nthI S (t - 1)
          · have HBF := Lib.hid hbf
            go_wp2
            refine wp_region_ge_lit (by kernel_rfl) (by kernel_rfl) ?_; (repeat (go_big_quiet_step ((fail)))); refine wpQuiet_nil ?_
            rintro w3 ⟨x, rfl⟩
            clear hbf p0 r0
            have HOg := Lib.hid (HD.out.2.1.below (ge_below wq x))
            have HBg := Lib.hid (below_up HD.out.1 (ge_below wq x))
            obtain ⟨q0, hgl3, -⟩ := HOg.out.at_ (k := t) (by rw [midI_len, HSL.out]; omega)
            obtain ⟨r0, -, -⟩ := HOg.out.at_ (k := t - 1) (by rw [midI_len, HSL.out]; omega)
            rw [HMN.out] at r0
            have f0 := HOg.out.frozen t
            have HFIN : Hid (Ro ((ge wq x).setCell ⟨g, t, none⟩ (.int .i64 (nthI S (t - 1)))) w.heap.size (.slice (some ⟨g, 0, none⟩) (k + 1) c2) (S.take (t - 1) ++ [nthI S (t - 1)] ++ S.drop (t - 1))) := by
              have h := HOg.out.set (nthI S (t - 1)) (k := t)
              rw [midI_back (by rw [HSL.out]; omega) ht0] at h
              exact h
            go_wp2
            go_roundw
            case rel =>
              refine ⟨t - 1, nthI S (t - 1), by omega, by go_num, HBg.out.setCell HGE.out _, HFIN.out, fun i h1 h2 => ?_⟩
              by_cases e : i = t - 1
              · rw [e]; exact HBF.out
              · exact HD.out.2.2 i (by omega) h2
            case measure => simp [intOf]; omega
          · have HSTP : Hid (t = 0 ∨ nthI S (t - 1) ≤ b) := .inr (by omega)
            go_wp2
            refine wp_region_ge_lit (by kernel_rfl) (by kernel_rfl) ?_; (repeat (go_big_quiet_step ((fail)))); refine wpQuiet_nil ?_
            rintro w3 ⟨x, rfl⟩
            have HOg := Lib.hid (HD.out.2.1.below (ge_below wq x))
            have HBg := Lib.hid (below_up HD.out.1 (ge_below wq x))
            obtain ⟨q0, hgl3, -⟩ := HOg.out.at_ (k := t) (by rw [midI_len, HSL.out]; omega)
            have f0 := HOg.out.frozen t
            have HFIN : Hid (Ro ((ge wq x).setCell ⟨g, t, none⟩ (.int .i64 b)) w.heap.size (.slice (some ⟨g, 0, none⟩) (k + 1) c2) (srtI (xs.take (k + 1)))) := by
              have h := HOg.out.set b (k := t)
              rw [midI_end (by rw [HSL.out]; omega), insI_srt HSS.out (by rw [HSL.out]; omega) (fun i h1 h2 => HD.out.2.2 i h1 (by rw [HSL.out] at h2; exact h2)) (HSTP.out), HSN.out] at h
              exact h
            go_wp2
            go_roundw
            case rel => exact ⟨k + 1, by omega, by go_num, HBg.out.setCell HGE.out _, HFIN.out⟩
            case measure => simp [intOf]; omega
        · have HSTP : Hid (t = 0 ∨ nthI S (t - 1) ≤ b) := .inl (by omega)
          go_wp2
          refine wp_region_ge_lit (by kernel_rfl) (by kernel_rfl) ?_; (repeat (go_big_quiet_step ((fail)))); refine wpQuiet_nil ?_
          rintro w3 ⟨x, rfl⟩
          have HOg := Lib.hid (HD.out.2.1.below (ge_below wq x))
          have HBg := Lib.hid (below_up HD.out.1 (ge_below wq x))
          obtain ⟨q0, hgl3, -⟩ := HOg.out.at_ (k := t) (by rw [midI_len, HSL.out]; omega)
          have f0 := HOg.out.frozen t
          have HFIN : Hid (Ro ((ge wq x).setCell ⟨g, t, none⟩ (.int .i64 b)) w.heap.size (.slice (some ⟨g, 0, none⟩) (k + 1) c2) (srtI (xs.take (k + 1)))) := by
            have h := HOg.out.set b (k := t)
            rw [midI_end (by rw [HSL.out]; omega), insI_srt HSS.out (by rw [HSL.out]; omega) (fun i h1 h2 => HD.out.2.2 i h1 (by rw [HSL.out] at h2; exact h2)) (HSTP.out), HSN.out] at h
            exact h
          go_wp2
          go_roundw
          case rel => exact ⟨k + 1, by omega, by go_num, HBg.out.setCell HGE.out _, HFIN.out⟩
          case measure => simp [intOf]; omega
    · obtain rfl : k = xs.length := by omega
      have HSQ := Lib.hid (HSEQ.out rfl)
      clear HSEQ
      go_wp2
      go_ret
      exact ⟨_, rfl, by rw [← HSQ.out]; exact HC.out.2, HC.out.1⟩

end Go.Proofs.Ytbknpflbafjblaa

/- Lists of lists that share their lists' rows; conditions: none. -/
namespace Go.Proofs.Ytbknpflbafjblaa
open Go.RowKit
set_option maxRecDepth 100000
set_option linter.unusedSimpArgs false
set_option linter.unusedVariables false

/-- rows of two types lie apart -/
theorem own_two {w : World} {b1 b2 s1 s2 n1 n2 : Nat} {t1 t2 : TypeId} {u v : Value} {xs ys : List Value} (h : w.ownsRow b1 t1 s1 u n1 xs) (k : w.ownsRow b2 t2 s2 v n2 ys) (ht : t1 ≠ t2) : ∀ b, v.ownBlock = some b → u.ownBlock ≠ some b := by
  intro b e
  rcases k.2 with ⟨rfl, _⟩ | ⟨g, cap, cur, rfl, _, hg, _⟩
  · simp [Value.ownBlock] at e
  · have e2 : g = b := by simpa [Value.ownBlock] using e
    subst e2
    exact own_typed h ⟨cur, hg⟩ ht
/-- u is a row of its own (above b1) of headers; the lists are rows (above b2) -/
def LLs (w : World) (b1 b2 : Nat) (u : Value) (ps : List (Value × List Int)) : Prop :=
  w.ownsRow b1 42 1 u ps.length (ps.map (·.1)) ∧ ∀ p ∈ ps, Ro w b2 p.1 p.2
theorem LLs.below {w w' : World} {b1 b2 : Nat} {u : Value} {ps : List (Value × List Int)} (h : LLs w b1 b2 u ps) (hb : Below w.heap.size w w') : LLs w' b1 b2 u ps := ⟨own_below h.1 hb, fun p hp => (h.2 p hp).below hb⟩
theorem LLs.slice {w : World} {b1 b2 : Nat} {u : Value} {ps : List (Value × List Int)} (h : LLs w b1 b2 u ps) : ∃ A c, u = .slice A ps.length c := own_slice h.1
theorem LLs.base {w : World} {b1 b2 c1 c2 : Nat} {u : Value} {ps : List (Value × List Int)} (h : LLs w b1 b2 u ps) (h1 : c1 ≤ b1) (h2 : c2 ≤ b2) : LLs w c1 c2 u ps := ⟨own_base h.1 h1, fun p hp => own_base (h.2 p hp) h2⟩
theorem LLs.nil (w : World) (b1 b2 : Nat) : LLs w b1 b2 (.slice none 0 0) [] := ⟨World.ownsRow_nil _ _ _ _, fun p hp => by simp at hp⟩
/-- the row of headers is written, the lists' rows are not -/
theorem LLs.grown {w w' : World} {b1 b2 c1 : Nat} {u v : Value} {ps qs : List (Value × List Int)} (h : LLs w b1 b2 u ps) (hg : w.grownBy w' u.ownBlock) (ho : w'.ownsRow c1 42 1 v qs.length (qs.map (·.1))) (hq : ∀ p ∈ qs, p ∈ ps ∨ Ro w b2 p.1 p.2) : LLs w' c1 b2 v qs := by
  refine ⟨ho, fun p hp => ?_⟩
  have hr : Ro w b2 p.1 p.2 := (hq p hp).elim (fun h2 => h.2 p h2) id
  exact hr.grown hg fun b e e2 => own_two h.1 hr (by decide) b e e2
theorem LLs.rd {w : World} {b1 b2 : Nat} {A : Option Addr} {n c : Nat} {ps : List (Value × List Int)} (h : LLs w b1 b2 (.slice A n c) ps) {k : Nat} (hk : k < ps.length) : ∃ g B d, A = some ⟨g, 0, none⟩ ∧ g < w.heap.size ∧ b1 ≤ g ∧ w.cell? ⟨g, k, none⟩ = some (.slice B (nthLL (ps.map (·.2)) k).length d) ∧ Il w B (nthLL (ps.map (·.2)) k) ∧ ps[k].1 = .slice B (nthLL (ps.map (·.2)) k).length d := by
  rcases h.1.2 with ⟨_, h0⟩ | ⟨g, cap, cur, hv, hb, hg, _, _, _, htk⟩
  · omega
  · simp only [Value.slice.injEq] at hv
    obtain ⟨rfl, -, -⟩ := hv
    have hr := h.2 ps[k] (List.getElem_mem hk)
    have e : nthLL (ps.map (·.2)) k = ps[k].2 := by simp [nthLL, hk]
    obtain ⟨B, d, e2, hI, _⟩ := hr.il
    refine ⟨g, B, d, rfl, Row.lt (w := w) (t := 42) (cur := cur) hg, hb, ?_, by rw [e]; exact hI, by rw [e, e2]⟩
    rw [Row.cell (w := w) (t := 42) (cur := cur) hg, ← Array.getElem?_toList]
    have h1 : (ps.map (·.1))[k]? = some ps[k].1 := by simp [hk]
    rw [← htk, List.getElem?_take_of_lt (by omega)] at h1
    rw [h1, e2, e]
theorem LLs.frozen {w : World} {b1 b2 g n c : Nat} {ps : List (Value × List Int)} (h : LLs w b1 b2 (.slice (some ⟨g, 0, none⟩) n c) ps) (i : Nat) : w.frozen? ⟨g, i, none⟩ = false := by
  obtain ⟨_, _, e⟩ := own_slice h.1
  simp only [Value.slice.injEq] at e
  obtain ⟨_, rfl, _⟩ := e
  exact World.ownsRow.frozenAt h.1 i
theorem LLs.form {w : World} {b1 b2 : Nat} {u : Value} {ps : List (Value × List Int)} (h : LLs w b1 b2 u ps) (hm : 0 < ps.length) : ∃ g c, u = .slice (some ⟨g, 0, none⟩) ps.length c ∧ b1 ≤ g ∧ g < w.heap.size := by
  rcases h.1.2 with ⟨_, h0⟩ | ⟨g, cap, cur, hv, hb, hg, _⟩
  · omega
  · exact ⟨g, cap, hv, hb, Row.lt (w := w) (t := 42) (cur := cur) hg⟩
/-- a header is written -/
theorem LLs.set {w : World} {b1 b2 g n c k : Nat} {ps : List (Value × List Int)} (h : LLs w b1 b2 (.slice (some ⟨g, 0, none⟩) n c) ps) (p : Value × List Int) (hp : Ro w b2 p.1 p.2) : LLs (w.setCell ⟨g, k, none⟩ p.1) b1 b2 (.slice (some ⟨g, 0, none⟩) n c) (ps.set k p) := by
  obtain ⟨_, _, e⟩ := own_slice h.1
  simp only [Value.slice.injEq] at e
  obtain ⟨_, rfl, _⟩ := e
  have hs := World.ownsRow.stored h.1 k p.1
  refine LLs.grown h hs.2 (by rw [List.length_set, List.map_set]; exact hs.1) fun q hq => ?_
  rcases List.mem_or_eq_of_mem_set hq with h1 | h1
  · exact .inl h1
  · exact .inr (by rw [h1]; exact hp)
/-- what is grown from u, then from what u has become -/
theorem grown_then {w a b : World} {u v : Value} (h : w.grownBy a u.ownBlock) (k : a.grownBy b v.ownBlock) (hat : v.ownBlock = u.ownBlock ∨ ∃ q, v.ownBlock = some q ∧ w.heap.size ≤ q) : w.grownBy b u.ownBlock := by
  refine ⟨k.os.trans h.os, k.tape.trans h.tape, k.output.trans h.output, Nat.le_trans h.size k.size, fun i hi hne => ?_⟩
  refine (k.block i (Nat.lt_of_lt_of_le hi h.size) fun e => ?_).trans (h.block i hi hne)
  rcases hat with e2 | ⟨q, e2, hq⟩
  · rw [e2] at e; exact hne e
  · rw [e2] at e; simp only [Option.some.injEq] at e; omega
theorem at_then {w a : World} {u v x : Value} (h : v.ownBlock = u.ownBlock ∨ ∃ q, v.ownBlock = some q ∧ w.heap.size ≤ q) (k : x.ownBlock = v.ownBlock ∨ ∃ q, x.ownBlock = some q ∧ a.heap.size ≤ q) (hz : w.heap.size ≤ a.heap.size) : x.ownBlock = u.ownBlock ∨ ∃ q, x.ownBlock = some q ∧ w.heap.size ≤ q := by
  rcases k with e | ⟨q, e, hq⟩
  · rcases h with e2 | ⟨q, e2, hq⟩
    · exact .inl (e.trans e2)
    · exact .inr ⟨q, e.trans e2, hq⟩
  · exact .inr ⟨q, e, by omega⟩
/-- a list with one thing in the middle -/
theorem midL_len {α : Type} {S : List α} {j : α} {t : Nat} : (S.take t ++ [j] ++ S.drop t).length = S.length + 1 := by
  simp only [List.length_append, List.length_take, List.length_drop, List.length_singleton]; omega
theorem midL_end {α : Type} {S : List α} {j b : α} {t : Nat} (ht : t ≤ S.length) : (S.take t ++ [j] ++ S.drop t).set t b = S.take t ++ [b] ++ S.drop t := by
  have hl : (S.take t).length = t := by rw [List.length_take]; omega
  have key : ∀ (A B : List α), (A ++ [j] ++ B).set A.length b = A ++ [b] ++ B := by
    intro A B
    induction A with
    | nil => rfl
    | cons a A ih => simp at ih ⊢
  have := key (S.take t) (S.drop t)
  rwa [hl] at this
theorem midL_back {α : Type} {S : List α} {j : α} {t : Nat} (ht : t < S.length) : (S.take (t + 1) ++ [j] ++ S.drop (t + 1)).set (t + 1) S[t] = S.take t ++ [S[t]] ++ S.drop t := by
  rw [midL_end (by omega), List.drop_eq_getElem_cons ht, ← List.take_append_getElem ht]
  simp
theorem midL_nth {α : Type} {S : List α} {j : α} {t i : Nat} (ht : t ≤ S.length) (hi : i < t) : (S.take t ++ [j] ++ S.drop t)[i]? = S[i]? := by
  rw [List.append_assoc, List.getElem?_append_left (by rw [List.length_take]; omega), List.getElem?_take_of_lt hi]

end Go.Proofs.Ytbknpflbafjblaa

/- Contracts of the reference's lists in order; conditions: stated in each. -/
namespace Go.Proofs.Ytbknpflbafjblaa
open Go.RowKit
set_option maxHeartbeats 2000000
set_option maxRecDepth 100000
set_option linter.unusedSimpArgs false
set_option linter.unusedVariables false

theorem l03Less_any (A : Option Addr) (c : Nat) (a : List Int) (B : Option Addr) (d : Nat) (b : List Int) (w : World) (hA : Il w A a) (hB : Il w B b) (hl : a.length ≤ 1048576) (hlb : b.length ≤ 1048576) :
    Calls Try.prog 159 #[.slice A a.length c, .slice B b.length d] w fun e w' => e = .returned (.bool (lessL a b)) ∧ Below w.heap.size w w' := by
  have HA := Lib.hid hA; have HB := Lib.hid hB
  clear hA hB
  have HL0 : Hid (lessF a b (a.length - 0) 0 = lessL a b) := rfl
  generalize lessL a b = R at *
  go_enter Try.func159, Try.ntmps159
  go_wp2
  go_loopw [5] (fun i wr => ∃ k : Nat, k ≤ a.length ∧ i = .int .i64 k ∧ Hid (Below w.heap.size w wr ∧ lessF a b (a.length - k) k = R)) (fun i _ => a.length - (intOf i).toNat)
  case atStart => exact ⟨0, by omega, rfl, Below.refl _ _, HL0.out⟩
  case round =>
    obtain ⟨k, hk, rfl, HC⟩ := hrel
    by_cases hlt : k < a.length
    · by_cases hlt2 : k < b.length
      · obtain ⟨b1, o1, hA1, hb1, p0⟩ := (HA.out.below HC.out.1).at_ hlt
        obtain ⟨b2, o2, hA2, hb2, q0⟩ := (HB.out.below HC.out.1).at_ hlt2
        subst hA1 hA2
        by_cases he : nthI a k = nthI b k
        · have HNX : Hid (lessF a b (a.length - (k + 1)) (k + 1) = R) := by
            have h := HC.out.2
            rw [(by omega : a.length - k = a.length - (k + 1) + 1), lessF, if_pos ⟨hlt, hlt2⟩, if_neg (by simpa using he)] at h
            exact h
          have HBW := Lib.hid HC.out.1
          rw [← he] at q0
          clear HC
          go_wp2
          go_quiet (fail)
          go_wp2
          go_roundw
          case rel => exact ⟨k + 1, by omega, by go_num, below_drewN HBW.out _, HNX.out⟩
          case measure => simp [intOf]; omega
        · have HNX : Hid (R = decide (nthI a k < nthI b k)) := by
            have h := HC.out.2
            rw [(by omega : a.length - k = a.length - (k + 1) + 1), lessF, if_pos ⟨hlt, hlt2⟩, if_pos he] at h
            exact h.symm
          have HBW := Lib.hid HC.out.1
          clear HC
          go_wp2
          go_quiet (fail)
          go_wp2
          go_quiet (fail)
          go_wp2
          go_ret
          exact ⟨ret_bool (by rw [HNX.out]), below_drewN (below_drewN HBW.out _) _⟩
      · have HNX : Hid (R = decide (a.length < b.length)) := by
          have h := HC.out.2
          rw [(by omega : a.length - k = a.length - (k + 1) + 1), lessF, if_neg (by omega)] at h
          exact h.symm
        have HBW := Lib.hid HC.out.1
        clear HC
        go_wp2
        go_ret
        exact ⟨ret_bool (by rw [HNX.out]), HBW.out⟩
    · have HNX : Hid (R = decide (a.length < b.length)) := by
        have h := HC.out.2
        rw [(by omega : a.length - k = 0), lessF] at h
        exact h.symm
      have HBW := Lib.hid HC.out.1
      clear HC
      go_wp2
      go_ret
      exact ⟨ret_bool (by rw [HNX.out]), HBW.out⟩
theorem l03Same_any (A : Option Addr) (c : Nat) (a : List Int) (B : Option Addr) (d : Nat) (b : List Int) (w : World) (hA : Il w A a) (hB : Il w B b) (hl : a.length ≤ 1048576) (hlb : b.length ≤ 1048576) :
    Calls Try.prog 160 #[.slice A a.length c, .slice B b.length d] w fun e w' => e = .returned (.bool (sameL a b)) ∧ Below w.heap.size w w' := by
  have HA := Lib.hid hA; have HB := Lib.hid hB
  have HAB := Lib.hid (fun W (hb : Below w.heap.size w W) => l03Less_any A c a B d b W (HA.out.below hb) (HB.out.below hb) hl hlb)
  have HBA := Lib.hid (fun W (hb : Below w.heap.size w W) => l03Less_any B d b A c a W (HB.out.below hb) (HA.out.below hb) hlb hl)
  have HR : Hid (sameL a b = (!lessL a b && !lessL b a)) := rfl
  generalize sameL a b = R at *
  have HW := Lib.hid (Since.refl w)
  generalize h1 : lessL a b = r1 at *
  generalize h2 : lessL b a = r2 at *
  clear hA hB h1 h2
  cases r1
  · go_enter Try.func160, Try.ntmps160
    go_wp2_with fail
    refine (HAB.out _ (Below.refl _ _)).mono ?_
    rintro e w1 ⟨rfl, hb⟩
    have HB1 := Lib.hid hb; clear hb
    go_wp2_with fail
    refine (HBA.out _ HB1.out).mono ?_
    rintro e w2 ⟨rfl, hb⟩
    have HB2 := Lib.hid (below_up HB1.out hb); clear hb
    go_wp2
    go_ret
    exact ⟨ret_bool (by rw [HR.out]; rfl), HB2.out⟩
  · go_enter Try.func160, Try.ntmps160
    go_wp2_with fail
    refine (HAB.out _ (Below.refl _ _)).mono ?_
    rintro e w1 ⟨rfl, hb⟩
    have HB1 := Lib.hid hb; clear hb
    go_wp2
    go_ret
    exact ⟨ret_bool (by rw [HR.out]; rfl), HB1.out⟩

/-- a list is put in -/
theorem l03Put_any (u : Value) (b1 b2 : Nat) (ps : List (Value × List Int)) (h9 : Value) (y : List Int) (w : World) (hL : LLs w b1 b2 u ps) (hy : Ro w b2 h9 y) (hl : ps.length ≤ 100000000) (hx : ∀ p ∈ ps, p.2.length ≤ 1048576) (hyl : y.length ≤ 1048576) (hb1 : b1 ≤ w.heap.size) :
    Calls Try.prog 128 #[u, h9] w fun e w' => ∃ u' ps', e = .returned u' ∧ LLs w' b1 b2 u' ps' ∧ ps'.map (·.2) = putL (ps.map (·.2)) y ∧ w.grownBy w' u.ownBlock ∧ (u'.ownBlock = u.ownBlock ∨ ∃ q, u'.ownBlock = some q ∧ w.heap.size ≤ q) := by
  obtain ⟨li0, hli, hli0, hli1, hli2⟩ := info_parts infoList'
  obtain ⟨A, c, rfl⟩ := hL.slice
  obtain ⟨B, d, rfl, hI, -⟩ := hy.il
  have HL := Lib.hid hL
  have HI := Lib.hid hI
  have HYR : Hid (∀ W, w.grownBy W (Value.slice A ps.length c).ownBlock → Ro W b2 (.slice B y.length d) y) := fun W hg => hy.grown hg fun b e e2 => own_two hL.1 hy (by decide) b e e2
  have HPD : Hid (putL (ps.map (·.2)) y = if 0 < putAt (ps.map (·.2)) y ps.length ∧ sameL (nthLL (ps.map (·.2)) (putAt (ps.map (·.2)) y ps.length - 1)) y = true then ps.map (·.2) else (ps.map (·.2)).take (putAt (ps.map (·.2)) y ps.length) ++ [y] ++ (ps.map (·.2)).drop (putAt (ps.map (·.2)) y ps.length)) := by unfold Hid putL; rw [List.length_map]
  have HHD : Hid (∀ k, k < ps.length → (nthLL (ps.map (·.2)) k).length ≤ 1048576) := fun k hk => by
    have : nthLL (ps.map (·.2)) k = ps[k].2 := by simp [nthLL, hk]
    rw [this]; exact hx _ (List.getElem_mem hk)
  have HPA : Hid (∀ a, putAt (ps.map (·.2)) y (a + 1) = if lessL y (nthLL (ps.map (·.2)) a) = true then putAt (ps.map (·.2)) y a else a + 1) := fun a => rfl
  have HP0 : Hid (putAt (ps.map (·.2)) y 0 = 0) := rfl
  generalize putL (ps.map (·.2)) y = R at *
  clear hL hy hI hx
  go_enter Try.func128, Try.ntmps128
  go_wp2
  go_loopw [5] (fun i wr => ∃ t : Nat, t ≤ ps.length ∧ i = .int .i64 t ∧ Hid (Below w.heap.size w wr ∧ putAt (ps.map (·.2)) y t = putAt (ps.map (·.2)) y ps.length)) (fun i _ => (intOf i).toNat)
  case atStart => exact ⟨ps.length, by omega, rfl, Below.refl _ _, rfl⟩
  case round =>
    obtain ⟨t, ht, rfl, HC⟩ := hrel
    by_cases ht0 : 0 < t
    · obtain ⟨g0, B0, d0, rfl, hg0, -, p0, hI0, -⟩ := (HL.out.below HC.out.1).rd (k := t - 1) (by omega)
      have hl0 := HHD.out (t - 1) (by omega)
      have HI0 := Lib.hid hI0
      have HPT := Lib.hid (HPA.out (t - 1))
      rw [(by omega : t - 1 + 1 = t)] at HPT
      clear hI0
      go_wp2_with fail
      refine (l03Less_any B d y B0 d0 _ _ (HI.out.below HC.out.1) HI0.out hyl hl0).mono ?_
      rintro e wl ⟨rfl, hb⟩
      have HBW : Hid (Below w.heap.size w wl) := below_up HC.out.1 hb
      have HI1 := Lib.hid (HI0.out.below hb)
      have p1 := (hb.cell (p := ⟨g0, t - 1, none⟩) hg0).trans p0
      have hg1 : g0 < wl.heap.size := Nat.lt_of_lt_of_le hg0 hb.size
      clear hb p0 HI0
      cases hle : lessL y (nthLL (ps.map (·.2)) (t - 1))
      · have HTT : Hid (putAt (ps.map (·.2)) y ps.length = t) := by unfold Hid; rw [← HC.out.2, HPT.out, if_neg (by simp [hle])]
        rw [HTT.out] at HPD
        cases hsm : sameL (nthLL (ps.map (·.2)) (t - 1)) y
        · have HPL : Hid (R = (ps.map (·.2)).take t ++ [y] ++ (ps.map (·.2)).drop t) := by unfold Hid; rw [HPD.out, if_neg (by rintro ⟨_, h⟩; rw [hsm] at h; cases h)]
          go_wp2_with fail
          refine (l03Same_any B0 d0 _ B d y _ HI1.out (HI.out.below HBW.out) hl0 hyl).mono ?_
          rw [hsm]
          rintro e ws ⟨rfl, hb⟩
          replace HBW := Lib.hid (below_up HBW.out hb)
          clear hb p1 hg1 hg0 HI1 HC HTT HPT HPD HPA HP0 hle hsm
          obtain ⟨wr, rfl⟩ : ∃ wx : World, wx = ws := ⟨_, rfl⟩
          have HLw := Lib.hid (HL.out.below HBW.out)
          have HO : Hid (wr.ownsRow b1 42 1 (.slice (some ⟨g0, 0, none⟩) ps.length c) ps.length (ps.map (·.1))) := HLw.out.1
          have hwz : w.heap.size ≤ wr.heap.size := HBW.out.size
          go_wp2_with (at_builtin; refine wpList_append_own_at _ rfl _ _ 61 rfl b1 42 li0 (.slice none 0 0) 1 24 Try.underlying61 hli hli0 hli1 hli2 rfl (by decide) _ _ _ rfl (HO.out.alloc _) ⟨wr.heap.size, 0, none⟩ 1 1 [.slice none 0 0] rfl rfl (cells_new _ _ _) (by simp [Value.oneCell']) (by unfold maxLen; omega) (by omega) (by simp; omega) ?_; intro v2 w2 hown2 hg2 _ hat2)
          have HL2 : Hid (LLs w2 b1 b2 v2 (ps ++ [(.slice none 0 0, [])])) := (HLw.out.below (below_alloc _ _)).grown hg2 (by rw [List.length_append, List.map_append]; exact hown2) fun q hq => by
            rcases List.mem_append.1 hq with h | h
            · exact .inl h
            · simp only [List.mem_singleton] at h; right; rw [h]; exact World.ownsRow_nil _ _ _ _
          have HAT : Hid (v2.ownBlock = (Value.slice (some ⟨g0, 0, none⟩) ps.length c).ownBlock ∨ ∃ q, v2.ownBlock = some q ∧ w.heap.size ≤ q) := hat2.imp id fun e => ⟨_, e, by rw [World.size_alloc]; omega⟩
          have HG2 : Hid (w.grownBy w2 (Value.slice (some ⟨g0, 0, none⟩) ps.length c).ownBlock) := World.grownBy.trans (grown_below (below_up HBW.out (below_alloc _ _)) _) hg2
          clear hown2 hg2 hat2
          obtain ⟨g, c2, hv2, hge2, hgl2⟩ := HL2.out.form (by simp)
          rw [List.length_append, List.length_singleton] at hv2
          subst hv2
          have HLN : ∀ W : World, (Builtin.len_ #[61] 3 #[Value.slice (some ⟨g, 0, none⟩) (ps.length + 1) c2]).run Try.prog W = .ok (.int .i64 ((ps.length + 1 : Nat) : Int)) W := fun W => by go_simp
          have HST0 : Hid (LLs w2 b1 b2 (.slice (some ⟨g, 0, none⟩) (ps.length + 1) c2) (ps.take ps.length ++ [(.slice none 0 0, [])] ++ ps.drop ps.length)) := by
            unfold Hid; rw [List.take_length, List.drop_length, List.append_nil]; exact HL2.out
          clear HL2 HO HLw hge2 hgl2 HHD
          rw [HLN w2]
          go_wp2
          go_loopw [6] (fun i wq => ∃ (s : Nat) (j : Value × List Int), t ≤ s ∧ s ≤ ps.length ∧ i = .int .i64 s ∧ Hid (w2.grownBy wq (some g) ∧ LLs wq b1 b2 (.slice (some ⟨g, 0, none⟩) (ps.length + 1) c2) (ps.take s ++ [j] ++ ps.drop s))) (fun i _ => (intOf i).toNat)
          case atStart => exact ⟨ps.length, _, by omega, by omega, by go_num, grown_refl _ _, HST0.out⟩
          case round =>
            obtain ⟨s, j, hs1, hs2, rfl, HD⟩ := hrel
            have hml : (ps.take s ++ [j] ++ ps.drop s).length = ps.length + 1 := midL_len
            obtain ⟨g1, B1, d1, e1, hgl1, -, q0, -, -⟩ := HD.out.2.rd (k := s) (by omega)
            simp only [Option.some.injEq, Addr.mk.injEq] at e1
            obtain ⟨rfl, -⟩ := e1
            have f0 := HD.out.2.frozen s
            by_cases hlt : t < s
            · obtain ⟨g3, B3, d3, e3, -, -, r0, hI3, e4⟩ := HD.out.2.rd (k := s - 1) (by omega)
              simp only [Option.some.injEq, Addr.mk.injEq] at e3
              obtain ⟨rfl, -⟩ := e3
              obtain ⟨m, rfl⟩ : ∃ m, s = m + 1 := ⟨s - 1, by omega⟩
              obtain ⟨zl, hzl⟩ : ∃ zl, zl = (nthLL ((ps.take (m + 1) ++ [j] ++ ps.drop (m + 1)).map (·.2)) (m + 1 - 1)).length := ⟨_, rfl⟩
              rw [← hzl] at r0 e4
              rw [Nat.add_sub_cancel] at r0
              have hm : m < ps.length := by omega
              have hpm : (ps.take (m + 1) ++ [j] ++ ps.drop (m + 1))[m + 1 - 1]'(by omega) = ps[m] := by
                have h1 := midL_nth (S := ps) (j := j) (t := m + 1) (i := m) (by omega) (by omega)
                rw [List.getElem?_eq_getElem (by rw [midL_len]; omega), List.getElem?_eq_getElem hm] at h1
                simpa using h1
              rw [hpm] at e4
              have hRm : Ro wr b2 ps[m].1 ps[m].2 := HD.out.2.2 _ (by rw [← hpm]; exact List.getElem_mem _)
              have HSS : Hid (LLs (wr.setCell ⟨g, m + 1, none⟩ ps[m].1) b1 b2 (.slice (some ⟨g, 0, none⟩) (ps.length + 1) c2) (ps.take m ++ [ps[m]] ++ ps.drop m)) := by
                have h := HD.out.2.set (k := m + 1) ps[m] hRm
                rw [midL_back hm] at h
                exact h
              have HGS : Hid (w2.grownBy (wr.setCell ⟨g, m + 1, none⟩ ps[m].1) (some g)) := grown_set HD.out.1 _ _
              rw [e4] at HSS HGS
              generalize ps[m] = pm at *
              clear e4 hpm hI3 hml hRm hzl
              go_wp2
              go_roundw
              case rel => exact ⟨m, pm, by omega, by omega, by go_num, HGS.out, by have := HSS.out; exact this⟩
              case measure => first | (simp [intOf]; done) | (simp [intOf]; omega)
            · obtain rfl : s = t := by omega
              have HSS : Hid (LLs (wr.setCell ⟨g, s, none⟩ (.slice B y.length d)) b1 b2 (.slice (some ⟨g, 0, none⟩) (ps.length + 1) c2) (ps.take s ++ [(.slice B y.length d, y)] ++ ps.drop s)) := by
                have h := HD.out.2.set (k := s) (.slice B y.length d, y) (HYR.out _ (grown_then (v := .slice (some ⟨g, 0, none⟩) (ps.length + 1) c2) HG2.out HD.out.1 HAT.out))
                rw [midL_end hs2] at h
                exact h
              go_wp2
              go_ret
              refine ⟨_, _, rfl, HSS.out, ?_, ?_, HAT.out⟩
              · rw [HPL.out]; simp [List.map_take, List.map_drop]
              · exact grown_then (v := .slice (some ⟨g, 0, none⟩) (ps.length + 1) c2) HG2.out (grown_set HD.out.1 _ _) HAT.out
        · have HPL : Hid (R = ps.map (·.2)) := by unfold Hid; rw [HPD.out, if_pos ⟨ht0, hsm⟩]
          go_wp2_with fail
          refine (l03Same_any B0 d0 _ B d y _ HI1.out (HI.out.below HBW.out) hl0 hyl).mono ?_
          rw [hsm]
          rintro e ws ⟨rfl, hb⟩
          replace HBW := Lib.hid (below_up HBW.out hb)
          clear hb
          go_wp2
          go_ret
          exact ⟨_, ps, rfl, HL.out.below HBW.out, HPL.out.symm, grown_below HBW.out _, .inl rfl⟩
      · have HTT : Hid (putAt (ps.map (·.2)) y (t - 1) = putAt (ps.map (·.2)) y ps.length) := by unfold Hid; rw [← HC.out.2, HPT.out, if_pos hle]
        go_wp2
        go_roundw
        case rel => exact ⟨t - 1, by omega, by go_num, HBW.out, HTT.out⟩
        case measure => simp [intOf]; omega
    · obtain rfl : t = 0 := by omega
      have HBW := Lib.hid HC.out.1
      have HTT : Hid (putAt (ps.map (·.2)) y ps.length = 0) := by unfold Hid; rw [← HC.out.2]; exact HP0.out
      rw [HTT.out] at HPD
      have HPL : Hid (R = (ps.map (·.2)).take 0 ++ [y] ++ (ps.map (·.2)).drop 0) := by unfold Hid; rw [HPD.out, if_neg (by rintro ⟨h, _⟩; omega)]
      obtain ⟨t, ht9⟩ : ∃ t : Nat, t = 0 := ⟨_, rfl⟩
      clear HC HTT HPD HPA HP0
      have HLw := Lib.hid (HL.out.below HBW.out)
      have HO : Hid (wr.ownsRow b1 42 1 (.slice A ps.length c) ps.length (ps.map (·.1))) := HLw.out.1
      have hwz : w.heap.size ≤ wr.heap.size := HBW.out.size
      go_wp2_with (at_builtin; refine wpList_append_own_at _ rfl _ _ 61 rfl b1 42 li0 (.slice none 0 0) 1 24 Try.underlying61 hli hli0 hli1 hli2 rfl (by decide) _ _ _ rfl (HO.out.alloc _) ⟨wr.heap.size, 0, none⟩ 1 1 [.slice none 0 0] rfl rfl (cells_new _ _ _) (by simp [Value.oneCell']) (by unfold maxLen; omega) (by omega) (by simp; omega) ?_; intro v2 w2 hown2 hg2 _ hat2)
      have HL2 : Hid (LLs w2 b1 b2 v2 (ps ++ [(.slice none 0 0, [])])) := (HLw.out.below (below_alloc _ _)).grown hg2 (by rw [List.length_append, List.map_append]; exact hown2) fun q hq => by
        rcases List.mem_append.1 hq with h | h
        · exact .inl h
        · simp only [List.mem_singleton] at h; right; rw [h]; exact World.ownsRow_nil _ _ _ _
      have HAT : Hid (v2.ownBlock = (Value.slice A ps.length c).ownBlock ∨ ∃ q, v2.ownBlock = some q ∧ w.heap.size ≤ q) := hat2.imp id fun e => ⟨_, e, by rw [World.size_alloc]; omega⟩
      have HG2 : Hid (w.grownBy w2 (Value.slice A ps.length c).ownBlock) := World.grownBy.trans (grown_below (below_up HBW.out (below_alloc _ _)) _) hg2
      clear hown2 hg2 hat2
      obtain ⟨g, c2, hv2, hge2, hgl2⟩ := HL2.out.form (by simp)
      rw [List.length_append, List.length_singleton] at hv2
      subst hv2
      have HLN : ∀ W : World, (Builtin.len_ #[61] 3 #[Value.slice (some ⟨g, 0, none⟩) (ps.length + 1) c2]).run Try.prog W = .ok (.int .i64 ((ps.length + 1 : Nat) : Int)) W := fun W => by go_simp
      have HST0 : Hid (LLs w2 b1 b2 (.slice (some ⟨g, 0, none⟩) (ps.length + 1) c2) (ps.take ps.length ++ [(.slice none 0 0, [])] ++ ps.drop ps.length)) := by
        unfold Hid; rw [List.take_length, List.drop_length, List.append_nil]; exact HL2.out
      clear HL2 HO HLw hge2 hgl2 HHD
      rw [HLN w2]
      go_wp2
      go_loopw [6] (fun i wq => ∃ (s : Nat) (j : Value × List Int), 0 ≤ s ∧ s ≤ ps.length ∧ i = .int .i64 s ∧ Hid (w2.grownBy wq (some g) ∧ LLs wq b1 b2 (.slice (some ⟨g, 0, none⟩) (ps.length + 1) c2) (ps.take s ++ [j] ++ ps.drop s))) (fun i _ => (intOf i).toNat)
      case atStart => exact ⟨ps.length, _, by omega, by omega, by go_num, grown_refl _ _, HST0.out⟩
      case round =>
        obtain ⟨s, j, hs1, hs2, rfl, HD⟩ := hrel
        have hml : (ps.take s ++ [j] ++ ps.drop s).length = ps.length + 1 := midL_len
        obtain ⟨g1, B1, d1, e1, hgl1, -, q0, -, -⟩ := HD.out.2.rd (k := s) (by omega)
        simp only [Option.some.injEq, Addr.mk.injEq] at e1
        obtain ⟨rfl, -⟩ := e1
        have f0 := HD.out.2.frozen s
        by_cases hlt : 0 < s
        · obtain ⟨g3, B3, d3, e3, -, -, r0, hI3, e4⟩ := HD.out.2.rd (k := s - 1) (by omega)
          simp only [Option.some.injEq, Addr.mk.injEq] at e3
          obtain ⟨rfl, -⟩ := e3
          obtain ⟨m, rfl⟩ : ∃ m, s = m + 1 := ⟨s - 1, by omega⟩
          obtain ⟨zl, hzl⟩ : ∃ zl, zl = (nthLL ((ps.take (m + 1) ++ [j] ++ ps.drop (m + 1)).map (·.2)) (m + 1 - 1)).length := ⟨_, rfl⟩
          rw [← hzl] at r0 e4
          rw [Nat.add_sub_cancel] at r0
          have hm : m < ps.length := by omega
          have hpm : (ps.take (m + 1) ++ [j] ++ ps.drop (m + 1))[m + 1 - 1]'(by omega) = ps[m] := by
            have h1 := midL_nth (S := ps) (j := j) (t := m + 1) (i := m) (by omega) (by omega)
            rw [List.getElem?_eq_getElem (by rw [midL_len]; omega), List.getElem?_eq_getElem hm] at h1
            simpa using h1
          rw [hpm] at e4
          have hRm : Ro wr b2 ps[m].1 ps[m].2 := HD.out.2.2 _ (by rw [← hpm]; exact List.getElem_mem _)
          have HSS : Hid (LLs (wr.setCell ⟨g, m + 1, none⟩ ps[m].1) b1 b2 (.slice (some ⟨g, 0, none⟩) (ps.length + 1) c2) (ps.take m ++ [ps[m]] ++ ps.drop m)) := by
            have h := HD.out.2.set (k := m + 1) ps[m] hRm
            rw [midL_back hm] at h
            exact h
          have HGS : Hid (w2.grownBy (wr.setCell ⟨g, m + 1, none⟩ ps[m].1) (some g)) := grown_set HD.out.1 _ _
          rw [e4] at HSS HGS
          generalize ps[m] = pm at *
          clear e4 hpm hI3 hml hRm hzl
          go_wp2
          go_roundw
          case rel => exact ⟨m, pm, by omega, by omega, by go_num, HGS.out, by have := HSS.out; exact this⟩
          case measure => first | (simp [intOf]; done) | (simp [intOf]; omega)
        · obtain rfl : s = 0 := by omega
          have HSS : Hid (LLs (wr.setCell ⟨g, 0, none⟩ (.slice B y.length d)) b1 b2 (.slice (some ⟨g, 0, none⟩) (ps.length + 1) c2) (ps.take 0 ++ [(.slice B y.length d, y)] ++ ps.drop 0)) := by
            have h := HD.out.2.set (k := 0) (.slice B y.length d, y) (HYR.out _ (grown_then (v := .slice (some ⟨g, 0, none⟩) (ps.length + 1) c2) HG2.out HD.out.1 HAT.out))
            rw [midL_end hs2] at h
            exact h
          go_wp2
          go_ret
          refine ⟨_, _, rfl, HSS.out, ?_, ?_, HAT.out⟩
          · rw [HPL.out]; simp [List.map_take, List.map_drop]
          · exact grown_then (v := .slice (some ⟨g, 0, none⟩) (ps.length + 1) c2) HG2.out (grown_set HD.out.1 _ _) HAT.out

end Go.Proofs.Ytbknpflbafjblaa

/- Contracts for CountDisjoint, of the reference and of the program; conditions: stated in each. -/
namespace Go.Proofs.Ytbknpflbafjblaa
open Go.RowKit
set_option maxHeartbeats 400000
set_option maxRecDepth 100000
set_option linter.unusedSimpArgs false
set_option linter.unusedVariables false

noncomputable def cntR (v : Int) (xs : List Blk) (k : Int) : Int × Int := if isSysB v xs = true then (if 0 ≤ k ∧ k ≤ 5 then (((cntS xs k.toNat 0 0 : Nat) : Int), 0) else (0, 2)) else (0, 1)

theorem dis_count {v : Int} {xs : List Blk} (hs : isSys v xs) (d : Nat) : (disL xs d []).length = cntS xs d 0 0 := dis_len hs.2.2.1 d [] (fun k hk => by simp at hk)
end Go.Proofs.Ytbknpflbafjblaa

/- The contract of the reference's sets of disjoint blocks by the least point that is left; conditions: stated in it. -/
namespace Go.Proofs.Ytbknpflbafjblaa
open Go.RowKit
set_option maxHeartbeats 4000000
set_option maxRecDepth 100000
set_option linter.unusedSimpArgs false
set_option linter.unusedVariables false

theorem cls_bd {xs : List Blk} (hx : xs.length ≤ 35) (all : Nat) : ∀ d now m, (clsL xs all d now m).length ≤ 35 ^ d := by
  intro d
  induction d with
  | zero => intro now m; rw [clsL]; split <;> simp
  | succ d ih =>
    intro now m
    rw [clsL]
    split
    · have : 0 < 35 ^ (d + 1) := Nat.pow_pos (by omega)
      simp; omega
    · rw [Nat.pow_succ, Nat.mul_comm]
      exact Nat.le_trans (loopL_bd (fun i => ih _ _) _) (Nat.mul_le_mul_right _ hx)
theorem bit_shr (s p : Nat) (hs : s < 32768) : (bits .and .i64 ((s : Int) / 2 ^ p) 1) = ((if s.testBit p = true then 1 else 0 : Nat) : Int) := by
  have e1 : (s : Int) / 2 ^ p = ((s / 2 ^ p : Nat) : Int) := by push_cast; rfl
  have hd : s / 2 ^ p < 4611686018427387904 := Nat.lt_of_le_of_lt (Nat.div_le_self _ _) (by omega)
  have e2 := bits_and_nat (s / 2 ^ p) 1 hd (by omega)
  rw [e1]
  show bits BinOp.and IntKind.i64 ((s / 2 ^ p : Nat) : Int) ((1 : Nat) : Int) = _
  rw [e2, Nat.and_one_is_mod, Nat.testBit_eq_decide_div_mod_eq]
  congr 1
  by_cases h : s / 2 ^ p % 2 = 1
  · rw [if_pos (by simpa using h)]; exact h
  · rw [if_neg (by simpa using h)]; omega
/-- the headers of one list behind those of another one, at a step of a region that draws -/
theorem step_append_hd {ops : Array Oper} {o : Oper} {a : Act} {K : Act → World → Prop} {Q : Exit → Act → World → Prop} {E : Prop} (W : World) (hgd : o.guard = none) (s x : Operand)
    (ho : o.op = .call { callee := .builtin .append, args := #[s, x], argTypes := #[61, 61] }) (base b2 b3 : Nat) (u r : Value) (ps qs : List (Value × List Int)) (hs : a.eval s = u) (hx : a.eval x = r) (hU : LLs W base b2 u ps) (hR : LLs W b3 b2 r qs) (hn0 : ps.length + qs.length ≤ 4000000000) (hbase : base ≤ W.heap.size)
    (h : ∀ v9 w9, LLs w9 base b2 v9 (ps ++ qs) → W.grownBy w9 u.ownBlock → (v9.ownBlock = u.ownBlock ∨ v9.ownBlock = some W.heap.size) → K (a.put o.dst v9) w9) : if Region.wanted o (yielded ops a.tmps) = true then Oper.wp Try.prog o a W K Q else E := by
  obtain ⟨li0, hli, hli0, hli1, hli2⟩ := info_parts infoList'
  by_cases h0 : qs.length = 0
  · have e : qs = [] := List.eq_nil_of_length_eq_zero h0
    subst e
    obtain ⟨A, c, rfl⟩ := hR.slice
    exact step_append_zero W hgd s x 61 ho base 42 li0 1 Try.underlying61 hli u ps.length _ hs hU.1 A c hx (h u W (by rw [List.append_nil]; exact hU) (grown_refl _ _) (.inl rfl))
  · obtain ⟨g, c, rfl, hg1, hg2⟩ := hR.form (by omega)
    refine step_append_at W hgd s x 61 ho base 42 li0 (.slice none 0 0) 1 24 Try.underlying61 hli hli0 hli1 hli2 rfl (by decide) u ps.length _ hs hU.1 ⟨g, 0, none⟩ qs.length c (qs.map (·.1)) hx (by simp) (World.ownsRow.cells hR.1 (by simp [Value.ownBlock])) (fun v hv => ?_) (by unfold maxLen; omega) (by omega) hbase fun v' w' h1 h2 h3 => ?_
    · obtain ⟨p, hp, rfl⟩ := List.mem_map.1 hv
      obtain ⟨A, c, e⟩ := own_slice (hR.2 p hp)
      rw [e]; rfl
    · exact h v' w' (hU.grown h2 (by rw [List.length_append, List.map_append]; exact h1) fun p hp => (List.mem_append.1 hp).imp id fun h4 => hR.2 p h4) h2 h3
theorem rises_asc {ns : List Int} {N : Int} (h : risesI ns N) : srtI ns = ns := by
  refine srtI_self ?_
  rw [List.pairwise_iff_getElem]
  intro i j hi hj hij
  have key : ∀ k, ∀ j, j < ns.length → i < j → j ≤ i + k → nthI ns i < nthI ns j := by
    intro k
    induction k with
    | zero => intro j _ h1 h2; omega
    | succ k ih =>
      intro j hj h1 h2
      have h3 := (h j hj).2 (by omega)
      by_cases e : j - 1 = i
      · rw [e] at h3; exact h3
      · have := ih (j - 1) (by omega) (by omega) (by omega); omega
  have := key (j - i) j hj hij (by omega)
  rw [nthI_get hi, nthI_get hj] at this
  unfold leI; simp only [decide_eq_true_eq]; omega
/-- a list of lists -/
def CLP (w : World) (L : List (List Int)) (e : Ending) (w' : World) : Prop := ∃ u ps, e = .returned u ∧ LLs w' w.heap.size w.heap.size u ps ∧ ps.map (·.2) = L ∧ Below w.heap.size w w'
theorem CLP.mk {w w' : World} {L : List (List Int)} {u : Value} {ps : List (Value × List Int)} (h : LLs w' w.heap.size w.heap.size u ps) (e : ps.map (·.2) = L) (hb : Below w.heap.size w w') : CLP w L (.returned u) w' := ⟨u, ps, rfl, h, e, hb⟩
/-- what is known of the blocks that go on -/
def clsP (xs : List Blk) (all m : Nat) (i : Nat) : Bool := hasB (nth xs i) (lowP all m 15 0 : Nat) && (maskB (nth xs i) &&& m == 0) && inA all (nth xs i)
end Go.Proofs.Ytbknpflbafjblaa

/- The contract of the reference's list of Pasch; conditions: stated in it. -/
namespace Go.Proofs.Ytbknpflbafjblaa
open Go.RowKit
set_option maxHeartbeats 4000000
set_option maxRecDepth 100000
set_option linter.unusedSimpArgs false
set_option linter.unusedVariables false

theorem meetI_rng {v : Int} {A B : Blk} (hg : goodB v A = true) : -1 ≤ meetI A B ∧ meetI A B < v := by
  have hb := good_bd hg
  unfold meetI
  split
  · omega
  · split
    · omega
    · split <;> omega
theorem oth_rng {v : Int} {A : Blk} (hg : goodB v A = true) (a : Int) : (0 ≤ (othB A a).1 ∧ (othB A a).1 < v) ∧ 0 ≤ (othB A a).2 ∧ (othB A a).2 < v := by
  have hb := good_bd hg
  unfold othB
  split
  · simp only; omega
  · split <;> (simp only; omega)
theorem l03Pasch_any (v : Int) (A : Option Addr) (c : Nat) (xs : List Blk) (hs : isSys v xs) (w : World) (hA : Bl w A xs) :
    Calls Try.prog 77 #[.agg #[.int .i64 v, .slice A xs.length c]] w (CLP w (paAll xs xs.length)) := by
  have hx35 := hs.2.1
  have hv15 := hs.1.2
  have HS := Lib.hid hs
  have hl : xs.length ≤ 1048576 := by omega
  have HX := Lib.hid (below_alloc w (.cells #[.int .i64 v, .slice A xs.length c] 30))
  have HA := Lib.hid (hA.below HX.out)
  have HR := Lib.hid (Row.box w 30 (.int .i64 v) (.slice A xs.length c))
  have HPB : Hid (∀ i, i ≤ 35 → PB (paAll xs i) (70 * i)) := fun i => PB.all i
  have HP0 : Hid (paAll xs 0 = []) := rfl
  have HP1 : Hid (∀ i, paAll xs (i + 1) = paRow xs i (paAll xs i) i) := fun i => rfl
  have HP2 : Hid (∀ i L, paRow xs i L 0 = L) := fun i L => rfl
  have HP3 : Hid (∀ i L j, paRow xs i L (j + 1) = paPair xs i j (paRow xs i L j)) := fun i L j => rfl
  have HP4 : Hid (∀ i j L, meetI (nth xs i) (nth xs j) < 0 → paPair xs i j L = L) := fun i j L h => by unfold paPair; simp only; rw [if_pos h]
  have HP5 : Hid (∀ i j L, ¬ meetI (nth xs i) (nth xs j) < 0 → paPair xs i j L = (trn xs i j (othB (nth xs i) (meetI (nth xs i) (nth xs j))).1 (othB (nth xs i) (meetI (nth xs i) (nth xs j))).2 (othB (nth xs j) (meetI (nth xs i) (nth xs j))).1 (othB (nth xs j) (meetI (nth xs i) (nth xs j))).2 L 2).2.2) := fun i j L h => by unfold paPair; simp only; rw [if_neg h]; rfl
  generalize hS : paAll xs = S at *
  clear hA hs hS
  go_enter Try.func77, Try.ntmps77
  have HU0 : Hid (LLs ((w.alloc (.cells #[.int .i64 v, .slice A xs.length c] 30)).alloc (.cells #[] 42)) (w.alloc (.cells #[.int .i64 v, .slice A xs.length c] 30)).heap.size (w.alloc (.cells #[.int .i64 v, .slice A xs.length c] 30)).heap.size (.slice (some ⟨w.heap.size + 1, 0, none⟩) 0 0) []) := by
    have h := own_empty (w.alloc (.cells #[.int .i64 v, .slice A xs.length c] 30)) 42 1
    rw [World.size_alloc] at h ⊢
    exact ⟨h, fun p hp => by simp at hp⟩
  have HBX := Lib.hid (below_alloc (w.alloc (.cells #[.int .i64 v, .slice A xs.length c] 30)) (.cells #[] 42))
  have HSZ : Hid ((w.alloc (.cells #[.int .i64 v, .slice A xs.length c] 30)).heap.size = w.heap.size + 1) := World.size_alloc _ _
  go_wp2
  generalize w.alloc (.cells #[.int .i64 v, .slice A xs.length c] 30) = W5 at *
  go_loopw [3, 4] (fun u i wr => ∃ k : Nat, k ≤ xs.length ∧ i = .int .i64 k ∧ Hid (Below W5.heap.size W5 wr ∧ ∃ ps, LLs wr W5.heap.size W5.heap.size u ps ∧ ps.map (·.2) = S k)) (fun _ i _ => xs.length - (intOf i).toNat)
  case atStart => exact ⟨0, by omega, rfl, HBX.out, [], HU0.out, by rw [HP0.out]; rfl⟩
  case round =>
    obtain ⟨k, hk, rfl, HC⟩ := hrel
    have HRw := Lib.hid (HR.out.below HC.out.1)
    obtain ⟨c0, c1⟩ := HRw.out.c2
    have hsz := HRw.out.lt
    by_cases hlt : k < xs.length
    · go_wp2
      have HCK := Lib.hid HC.out
      clear HC c0 c1 hsz HRw
      obtain ⟨wo, rfl⟩ : ∃ wo : World, wo = wr := ⟨_, rfl⟩
      go_loopw [3, 5] (fun u i wr => ∃ j : Nat, j ≤ k ∧ i = .int .i64 j ∧ Hid (Below W5.heap.size W5 wr ∧ ∃ ps, LLs wr W5.heap.size W5.heap.size u ps ∧ ps.map (·.2) = paRow xs k (S k) j)) (fun _ i _ => k - (intOf i).toNat)
      case atStart => exact ⟨0, by omega, rfl, by rw [HP2.out]; exact HCK.out⟩
      case round =>
        clear HCK
        obtain ⟨j, hj, rfl, HC⟩ := hrel
        have HRw := Lib.hid (HR.out.below HC.out.1)
        have HAw := Lib.hid (HA.out.below HC.out.1)
        by_cases hltj : j < k
        · have HPBJ : Hid (PB (paRow xs k (S k) j) (70 * k + 2 * j)) := (HPB.out k (by omega)).row j
          have hG := HS.out.2.2.1
          have HGK := Lib.hid (hG k hlt).1
          have HGJ := Lib.hid (hG j (by omega)).1
          clear hG
          have hRM := meetI_rng (B := nth xs j) HGK.out
          have HM4 := Lib.hid (HP4.out k j (paRow xs k (S k) j))
          have HM5 := Lib.hid (HP5.out k j (paRow xs k (S k) j))
          have HOK := Lib.hid (oth_rng HGK.out (meetI (nth xs k) (nth xs j)))
          have HOJ := Lib.hid (oth_rng HGJ.out (meetI (nth xs k) (nth xs j)))
          have HQ := Lib.hid (HP3.out k (S k) j)
          have HMT := Lib.hid (fun w => l03Meet_any (nth xs k) (nth xs j) w)
          have HTK := Lib.hid (fun w => l03Others_any (nth xs k) (meetI (nth xs k) (nth xs j)) w)
          have HTJ := Lib.hid (fun w => l03Others_any (nth xs j) (meetI (nth xs k) (nth xs j)) w)
          generalize meetI (nth xs k) (nth xs j) = a at *
          generalize othB (nth xs k) a = ce at *
          generalize othB (nth xs j) a = df at *
          obtain ⟨ce1, ce2⟩ := ce
          obtain ⟨df1, df2⟩ := df
          generalize hL0 : paRow xs k (S k) j = L0 at *
          clear hL0
          obtain ⟨c0, c1⟩ := HRw.out.c2
          have hsz := HRw.out.lt
          obtain ⟨b1, o1, hA1, hb1, p0, p1, p2⟩ := HAw.out.at_ hlt
          subst hA1
          obtain ⟨b2, o2, hA2, hb2, q0, q1, q2⟩ := HAw.out.at_ (k := j) (by omega)
          simp only [Option.some.injEq, Addr.mk.injEq] at hA2
          obtain ⟨rfl, rfl, -⟩ := hA2
          go_wp2
          refine wp_region_ge_lit (by kernel_rfl) (by kernel_rfl) ?_; (repeat (go_big_quiet_step ((go_at_call 125; exact ge_call (HMT.out _))))); refine wpQuiet_nil ?_
          rintro w1 ⟨x, rfl⟩
          have HB1 := Lib.hid (below_up HC.out.1 (ge_below wr x))
          have HC1 : Hid (∃ ps, LLs (ge wr x) W5.heap.size W5.heap.size u3 ps ∧ ps.map (·.2) = L0) := HC.out.2.imp fun ps h => ⟨h.1.below (ge_below wr x), h.2⟩
          clear c0 c1 hsz hb1 hb2 p0 p1 p2 q0 q1 q2 HRw HAw HC HMT
          generalize ge wr x = w1 at *
          obtain ⟨c0, c1⟩ := (HR.out.below HB1.out).c2
          have hsz := (HR.out.below HB1.out).lt
          by_cases ha : a < 0
          · have HM := Lib.hid (HM4.out ha)
            go_wp2
            go_roundw
            case rel => exact ⟨j + 1, by omega, by go_num, HB1.out, by rw [HQ.out, HM.out]; exact HC1.out⟩
            case measure => simp [intOf]; omega
          · have HM := Lib.hid (HM5.out (by omega))
            clear HM4 HM5
            obtain ⟨bx, ox, hAx, hb1, p0, p1, p2⟩ := (HA.out.below HB1.out).at_ hlt
            simp only [Option.some.injEq, Addr.mk.injEq] at hAx
            obtain ⟨rfl, rfl, -⟩ := hAx
            go_wp2_with fail
            refine (HTK.out _).mono ?_
            rintro e w2 ⟨rfl, hb⟩
            have HB2 := Lib.hid (below_up HB1.out hb)
            have HC2 : Hid (∃ ps, LLs w2 W5.heap.size W5.heap.size u3 ps ∧ ps.map (·.2) = L0) := HC1.out.imp fun ps h => ⟨h.1.below hb, h.2⟩
            clear hb c0 c1 hsz hb1 p0 p1 p2 HTK HC1
            obtain ⟨c0, c1⟩ := (HR.out.below HB2.out).c2
            have hsz := (HR.out.below HB2.out).lt
            obtain ⟨bx, ox, hAx, hb1, p0, p1, p2⟩ := (HA.out.below HB2.out).at_ (k := j) (by omega)
            simp only [Option.some.injEq, Addr.mk.injEq] at hAx
            obtain ⟨rfl, rfl, -⟩ := hAx
            go_wp2_with fail
            refine (HTJ.out _).mono ?_
            rintro e w3 ⟨rfl, hb⟩
            have HB3 := Lib.hid (below_up HB2.out hb)
            have HC3 : Hid (∃ ps, LLs w3 W5.heap.size W5.heap.size u3 ps ∧ ps.map (·.2) = L0) := HC2.out.imp fun ps h => ⟨h.1.below hb, h.2⟩
            clear hb c0 c1 hsz hb1 p0 p1 p2 HTJ HC2
            have HT0 : Hid (trn xs k j ce1 ce2 df1 df2 L0 0 = (df1, df2, L0)) := rfl
            have HTS : Hid (∀ t, trn xs k j ce1 ce2 df1 df2 L0 (t + 1) = ((trn xs k j ce1 ce2 df1 df2 L0 t).2.1, (trn xs k j ce1 ce2 df1 df2 L0 t).1, paIt xs k j ce1 ce2 (trn xs k j ce1 ce2 df1 df2 L0 t).1 (trn xs k j ce1 ce2 df1 df2 L0 t).2.1 (trn xs k j ce1 ce2 df1 df2 L0 t).2.2)) := fun t => rfl
            have HTB : Hid (∀ t, PB (trn xs k j ce1 ce2 df1 df2 L0 t).2.2 (70 * k + 2 * j + t)) := fun t => HPBJ.out.trn t
            have HTD : Hid (∀ t, (0 ≤ (trn xs k j ce1 ce2 df1 df2 L0 t).1 ∧ (trn xs k j ce1 ce2 df1 df2 L0 t).1 < 15) ∧ 0 ≤ (trn xs k j ce1 ce2 df1 df2 L0 t).2.1 ∧ (trn xs k j ce1 ce2 df1 df2 L0 t).2.1 < 15) := fun t => by
              have h := trn_df xs k j ce1 ce2 df1 df2 L0 t
              have h2 := HOJ.out
              omega
            have hce : (0 ≤ ce1 ∧ ce1 < 15) ∧ 0 ≤ ce2 ∧ ce2 < 15 := by
              have h2 := HOK.out
              omega
            have HCE := Lib.hid hce
            clear hce
            generalize trn xs k j ce1 ce2 df1 df2 L0 = T at *
            go_wp2
            go_loopw [3, 9, 10, 11] (fun u d f i wr => ∃ t : Nat, t ≤ 2 ∧ i = .int .i64 t ∧ d = .int .i64 (T t).1 ∧ f = .int .i64 (T t).2.1 ∧ Hid (Below W5.heap.size W5 wr ∧ ∃ ps, LLs wr W5.heap.size W5.heap.size u ps ∧ ps.map (·.2) = (T t).2.2)) (fun _ _ _ i _ => 2 - (intOf i).toNat)
            case atStart => exact ⟨0, by omega, rfl, by rw [HT0.out], by rw [HT0.out], HB3.out, by rw [HT0.out]; exact HC3.out⟩
            case round =>
              clear HC3 HB3
              obtain ⟨t, ht, rfl, rfl, rfl, HC⟩ := hrel
              by_cases hlt3 : t < 2
              · have HTN := Lib.hid (HTS.out t)
                have HTBt := Lib.hid (HTB.out t)
                have HTDt := Lib.hid (HTD.out t)
                generalize T t = tt at *
                obtain ⟨d, f, L⟩ := tt
                have hT2 := HTDt.out
                simp only at hT2
                have hce := HCE.out
                have HIT : Hid (paIt xs k j ce1 ce2 d f L = if 0 ≤ third xs ce1 f ∧ third xs d ce2 = third xs ce1 f then putL L (srtI [(k : Int), j, numB xs ce1 f, numB xs d ce2]) else L) := rfl
                have HT1 := Lib.hid (fun W hA => l01Third_any v (some ⟨b1, o1, none⟩) c xs ce1 f W hA hl HS.out hce.1 hT2.2)
                have HT2 := Lib.hid (fun W hA => l01Third_any v (some ⟨b1, o1, none⟩) c xs d ce2 W hA hl HS.out hT2.1 hce.2)
                have HPBt : Hid (PB L (70 * k + 2 * j + t)) := HTBt.out
                have HTN1 : Hid (T (t + 1) = (f, d, paIt xs k j ce1 ce2 d f L)) := HTN.out
                have HNM1 := Lib.hid (fun W hA => l03Number_any v (some ⟨b1, o1, none⟩) c xs ce1 f W hA hl)
                have HNM2 := Lib.hid (fun W hA => l03Number_any v (some ⟨b1, o1, none⟩) c xs d ce2 W hA hl)
                generalize third xs ce1 f = b at *
                generalize third xs d ce2 = b' at *
                generalize numB xs ce1 f = N1 at *
                generalize numB xs d ce2 = N2 at *
                clear HTBt HTDt hT2 hce HTN
                generalize paIt xs k j ce1 ce2 d f L = L2 at *
                obtain ⟨c0, c1⟩ := (HR.out.below HC.out.1).c2
                have hsz := (HR.out.below HC.out.1).lt
                go_wp2_with fail
                refine (HT1.out _ (HA.out.below HC.out.1)).mono ?_
                rintro e w4 ⟨rfl, hb⟩
                have HB4 := Lib.hid (below_up HC.out.1 hb)
                have HC4 : Hid (∃ ps, LLs w4 W5.heap.size W5.heap.size u3 ps ∧ ps.map (·.2) = L) := HC.out.2.imp fun ps h => ⟨h.1.below hb, h.2⟩
                clear hb c0 c1 hsz
                obtain ⟨c0, c1⟩ := (HR.out.below HB4.out).c2
                have hsz := (HR.out.below HB4.out).lt
                by_cases hb0 : 0 ≤ b
                · by_cases hbb : b' = b
                  · have HL2 : Hid (L2 = putL L (srtI [(k : Int), j, N1, N2])) := by unfold Hid; rw [HIT.out, if_pos ⟨hb0, hbb⟩]
                    subst hbb
                    go_wp2_with fail
                    refine (HT2.out _ (HA.out.below HB4.out)).mono ?_
                    rintro e w7 ⟨rfl, hb⟩
                    have HB7 := Lib.hid (below_up HB4.out hb)
                    have HC7 : Hid (∃ ps, LLs w7 W5.heap.size W5.heap.size u3 ps ∧ ps.map (·.2) = L) := HC4.out.imp fun ps h => ⟨h.1.below hb, h.2⟩
                    clear hb c0 c1 hsz HC4 HC HIT
                    obtain ⟨ps, hps, hpm⟩ := HC7.out
                    have HP7 := Lib.hid hps
                    have HPM := Lib.hid hpm
                    have HR7 := Lib.hid (HR.out.below HB7.out)
                    have HA7 := Lib.hid (HA.out.below HB7.out)
                    have HKEEP := Lib.hid (HR7.out).c2
                    have hpl : ps.length ≤ 100000000 := by
                      have h1 := HPBt.out.1
                      rw [← hpm, List.length_map] at h1; omega
                    have HPX : Hid (∀ p ∈ ps, p.2.length ≤ 1048576) := fun p hp => by
                      have := HPBt.out.2 p.2 (by rw [← hpm]; exact List.mem_map_of_mem hp); omega
                    have hyl : (srtI [(k : Int), j, N1, N2]).length = 4 := by rw [srtI_len]; rfl
                    have HYL := Lib.hid hyl
                    have hz7 : W5.heap.size ≤ w7.heap.size := HB7.out.size
                    clear hps hpm hyl HC7
                    go_wp2
                    go_region_held3 (fun w' => w'.cell? ⟨w.heap.size, 0, none⟩ = some (.int .i64 v) ∧ w'.cell? ⟨w.heap.size, 1, none⟩ = some (.slice (some ⟨b1, o1, none⟩) xs.length c)) (first | exact HKEEP.out | (refine (HR7.out.below ?_).c2; (repeat' (first | (with_reducible exact Below.refl _ _) | (with_reducible assumption) | (with_reducible refine below_drewN ?_ _) | (with_reducible refine Below.drew ?_) | (with_reducible refine Below.alloc ?_ ?_ _) | (with_reducible refine Below.setCell ?_ ?_ _) | go_size)); done)) (first
                      | (go_at_call 130
                         fail_if_success (have T0 : HN1 = HN1 := rfl)
                         refine (HNM1.out _ (HA7.out.below (by (repeat' (first | (with_reducible exact Below.refl _ _) | (with_reducible assumption) | (with_reducible refine below_drewN ?_ _) | (with_reducible refine Below.drew ?_) | (with_reducible refine Below.alloc ?_ ?_ _) | (with_reducible refine Below.setCell ?_ ?_ _) | go_size))))).mono ?_
                         rintro e w8 ⟨rfl, hb⟩
                         have HN1 : Hid (Below w7.heap.size w7 w8) := below_up (by (repeat' (first | (with_reducible exact Below.refl _ _) | (with_reducible assumption) | (with_reducible refine below_drewN ?_ _) | (with_reducible refine Below.drew ?_) | (with_reducible refine Below.alloc ?_ ?_ _) | (with_reducible refine Below.setCell ?_ ?_ _) | go_size))) hb
                         replace HKEEP := Lib.hid (HR7.out.below HN1.out).c2
                         have hs8 := HN1.out.size
                         have hb8 := HN1.out
                         clear hb)
                      | (go_at_call 130
                         refine (HNM2.out _ (HA7.out.below (by (repeat' (first | (with_reducible exact Below.refl _ _) | (with_reducible assumption) | (with_reducible refine below_drewN ?_ _) | (with_reducible refine Below.drew ?_) | (with_reducible refine Below.alloc ?_ ?_ _) | (with_reducible refine Below.setCell ?_ ?_ _) | go_size))))).mono ?_
                         rintro e w9 ⟨rfl, hb⟩
                         have HN2 : Hid (Below w7.heap.size w7 w9) := below_up (by (repeat' (first | (with_reducible exact Below.refl _ _) | (with_reducible assumption) | (with_reducible refine below_drewN ?_ _) | (with_reducible refine Below.drew ?_) | (with_reducible refine Below.alloc ?_ ?_ _) | (with_reducible refine Below.setCell ?_ ?_ _) | go_size))) hb
                         replace HKEEP := Lib.hid (HR7.out.below HN2.out).c2
                         have hs9 := HN2.out.size
                         have hb9 := HN2.out
                         clear hb)
                      | (go_at_call 129
                         refine (l03Asc_any _ _ [(k : Int), j, N1, N2] _ (Il.new _ [(k : Int), j, N1, N2] _) (by simp)).mono ?_
                         rintro e w10 ⟨r, rfl, hR, hb⟩
                         have HY : Hid (Ro w10 W5.heap.size r (srtI [(k : Int), j, N1, N2])) := own_base hR (by simp; omega)
                         have HB10 : Hid (Below w7.heap.size w7 w10) := below_up (by (repeat' (first | (with_reducible exact Below.refl _ _) | (with_reducible assumption) | (with_reducible refine below_drewN ?_ _) | (with_reducible refine Below.drew ?_) | (with_reducible refine Below.alloc ?_ ?_ _) | (with_reducible refine Below.setCell ?_ ?_ _) | go_size))) hb
                         replace HKEEP := Lib.hid (HR7.out.below HB10.out).c2
                         have HP10 := Lib.hid (HP7.out.below HB10.out)
                         have hs10 := HB10.out.size
                         have hb10 := HB10.out
                         clear hb hR)
                      | (go_at_call 128
                         refine (l03Put_any _ _ _ ps _ (srtI [(k : Int), j, N1, N2]) _ HP10.out HY.out hpl HPX.out (by rw [HYL.out]; omega) (by omega)).mono ?_
                         rintro e w11 ⟨u', ps', rfl, hL, hpm, hg, hat⟩
                         have HL11 := Lib.hid hL
                         have HM11 := Lib.hid hpm
                         have HB11 : Hid (Below W5.heap.size W5 w11) := (below_up HB7.out HB10.out).grown hg (by omega) (own_block HP10.out.1)
                         replace HKEEP := Lib.hid (HR.out.below HB11.out).c2
                         clear hL hpm hg hat))
                    all_goals
                      go_wp2
                      go_roundw
                      case rel => exact ⟨t + 1, by omega, by go_num, by rw [HTN1.out], by rw [HTN1.out], HB11.out, ps', HL11.out, by rw [HM11.out, HPM.out, HTN1.out, HL2.out]⟩
                      case measure => simp [intOf]; omega
                  · have HL2 : Hid (L2 = L) := by unfold Hid; rw [HIT.out, if_neg (fun h => hbb h.2)]
                    go_wp2_with fail
                    refine (HT2.out _ (HA.out.below HB4.out)).mono ?_
                    rintro e w7 ⟨rfl, hb⟩
                    have HB7 := Lib.hid (below_up HB4.out hb)
                    have HC7 : Hid (∃ ps, LLs w7 W5.heap.size W5.heap.size u3 ps ∧ ps.map (·.2) = L) := HC4.out.imp fun ps h => ⟨h.1.below hb, h.2⟩
                    clear hb c0 c1 hsz HC4 HC HIT
                    go_wp2
                    go_roundw
                    case rel => exact ⟨t + 1, by omega, by go_num, by rw [HTN1.out], by rw [HTN1.out], HB7.out, by rw [HTN1.out, HL2.out]; exact HC7.out⟩
                    case measure => simp [intOf]; omega
                · have HL2 : Hid (L2 = L) := by unfold Hid; rw [HIT.out, if_neg (fun h => hb0 h.1)]
                  clear HC HIT
                  go_wp2
                  go_roundw
                  case rel => exact ⟨t + 1, by omega, by go_num, by rw [HTN1.out], by rw [HTN1.out], HB4.out, by rw [HTN1.out, HL2.out]; exact HC4.out⟩
                  case measure => simp [intOf]; omega
              · obtain rfl : t = 2 := by omega
                go_wp2
                go_roundw
                case rel => exact ⟨j + 1, by omega, by go_num, HC.out.1, by rw [HQ.out, HM.out]; exact HC.out.2⟩
                case measure => simp [intOf]; omega
        · obtain rfl : j = k := by omega
          go_wp2
          go_roundw
          case rel => exact ⟨j + 1, by omega, by go_num, by rw [HP1.out]; exact HC.out⟩
          case measure => simp [intOf]; omega
    · obtain rfl : k = xs.length := by omega
      obtain ⟨ps, h1, h2⟩ := HC.out.2
      have H1 := Lib.hid h1; have H2 := Lib.hid h2
      clear h1 h2
      go_wp2
      go_ret
      exact CLP.mk (H1.out.base HX.out.size HX.out.size) H2.out (below_up HX.out HC.out.1)

end Go.Proofs.Ytbknpflbafjblaa

/- Plain laws of the program's test for a Pasch: counts of points; conditions: stated in each. -/
namespace Go.Proofs.Ytbknpflbafjblaa
set_option linter.unusedSimpArgs false
set_option linter.unusedVariables false

/-- the points of the first k blocks -/
def ptsB (bs : List Blk) : Nat → List Int
  | 0 => []
  | k + 1 => ptsB bs k ++ [(nth bs k).1, (nth bs k).2.1, (nth bs k).2.2]
/-- how often each point is there -/
def cF (l : List Int) (p : Nat) : Int := ((l.count (p : Int) : Nat) : Int)
/-- how many points are there -/
def PT (l : List Int) : Nat := cntF (fun p => decide (0 < l.count (p : Int))) 15
theorem cF_snoc (l : List Int) (q : Nat) : cF (l ++ [(q : Int)]) = upd (cF l) q (cF l q + 1) := by
  funext p
  unfold cF upd
  rw [List.count_append, List.count_singleton]
  by_cases e : p = q
  · subst e; simp
  · rw [if_neg e, if_neg (by simp; omega)]; simp
theorem cF_rng (l : List Int) (p : Nat) : 0 ≤ cF l p ∧ cF l p ≤ l.length := by
  unfold cF
  have := List.count_le_length (a := (p : Int)) (l := l)
  omega
theorem cntF_one {f g : Nat → Bool} {q : Nat} (hf : f q = false) (hg : g q = true) (hne : ∀ p, p ≠ q → g p = f p) : ∀ n, cntF g n = cntF f n + (if q < n then 1 else 0) := by
  intro n
  induction n with
  | zero => simp [cntF]
  | succ n ih =>
    rw [cntF_bn, cntF_bn, ih]
    by_cases e : n = q
    · subst e; rw [hf, hg]; simp [bn]
    · rw [hne n e]
      by_cases h : q < n
      · rw [if_pos h, if_pos (by omega)]; omega
      · rw [if_neg h, if_neg (by omega)]; omega
theorem PT_snoc {l : List Int} {q : Nat} (hq : q < 15) : PT (l ++ [(q : Int)]) = PT l + (if cF l q + 1 = 1 then 1 else 0) := by
  unfold PT
  by_cases h : l.count (q : Int) = 0
  · rw [if_pos (by unfold cF; omega)]
    rw [cntF_one (f := fun p => decide (0 < l.count (p : Int))) (q := q) (by show decide _ = false; rw [h]; rfl) (by simp) (fun p hp => by
      rw [List.count_append, List.count_singleton, if_neg (by simp; omega)]; rfl) 15, if_pos hq]
  · rw [if_neg (by unfold cF; omega), Nat.add_zero]
    refine cntF_congr 15 fun p _ => ?_
    rw [List.count_append, List.count_singleton]
    by_cases e : p = q
    · subst e; rw [Bool.eq_iff_iff, decide_eq_true_eq, decide_eq_true_eq]; omega
    · rw [if_neg (by simp; omega)]; rfl
theorem PT_le (l : List Int) : PT l ≤ 15 := by
  have key : ∀ (f : Nat → Bool) n, cntF f n ≤ n := by
    intro f n
    induction n with
    | zero => exact Nat.le_refl _
    | succ n ih => rw [cntF_bn]; unfold bn; split <;> omega
  exact key _ 15
theorem ptsB_len (bs : List Blk) : ∀ k, (ptsB bs k).length = 3 * k
  | 0 => rfl
  | k + 1 => by rw [ptsB, List.length_append, ptsB_len bs k]; simp; omega
/-- the list of the counts -/
def cL (l : List Int) : List Int := (List.range 15).map (cF l)
theorem cL_len (l : List Int) : (cL l).length = 15 := by simp [cL]
theorem cL_nth (l : List Int) {p : Nat} (hp : p < 15) : nthI (cL l) p = cF l p := by simp [nthI, cL, hp]
theorem count_blk {v : Int} {b : Blk} (hg : goodB v b = true) (p : Int) : [b.1, b.2.1, b.2.2].count p = bn (hasB b p) := by
  have hb := good_bd hg
  unfold bn
  by_cases h : hasB b p = true
  · rw [if_pos h]
    rw [has_iff] at h
    simp only [List.count_cons, List.count_nil, beq_iff_eq]
    (repeat' split) <;> omega
  · rw [if_neg h]
    rw [has_iff] at h
    simp only [List.count_cons, List.count_nil, beq_iff_eq]
    (repeat' split) <;> omega
/-- what isPasch answers about the blocks with these four numbers -/
theorem paB_pts {v : Int} {xs : List Blk} (hs : isSys v xs) {i j k m : Nat} (hi : i < xs.length) (hj : j < xs.length) (hk : k < xs.length) (hm : m < xs.length) :
    (decide (PT (ptsB [nth xs i, nth xs j, nth xs k, nth xs m] 4) = 6) && !anyP (fun x => decide (x > 2)) (cL (ptsB [nth xs i, nth xs j, nth xs k, nth xs m] 4))) = paB xs [(i : Int), j, k, m] := by
  have hc : ∀ p : Nat, (ptsB [nth xs i, nth xs j, nth xs k, nth xs m] 4).count (p : Int) = hvL xs [(i : Int), j, k, m] p := fun p => by
    rw [hv4, ← count_blk (hs.2.2.1 i hi).1, ← count_blk (hs.2.2.1 j hj).1, ← count_blk (hs.2.2.1 k hk).1, ← count_blk (hs.2.2.1 m hm).1]
    show ((((([] ++ [_, _, _]) ++ [_, _, _]) ++ [_, _, _]) ++ [_, _, _]) : List Int).count _ = _
    simp only [List.count_append, List.count_nil, Nat.zero_add]
    rfl
  generalize ptsB [nth xs i, nth xs j, nth xs k, nth xs m] 4 = l at *
  have h6 : PT l = cntF (fun p => decide (0 < hvL xs [(i : Int), j, k, m] p)) 15 := cntF_congr 15 fun p _ => by rw [hc]
  rw [Bool.eq_iff_iff, paB_iff, Bool.and_eq_true, decide_eq_true_eq, h6]
  unfold paL
  have ha : ((!anyP (fun x => decide (x > 2)) (cL l)) = true) ↔ ∀ p, p < 15 → hvL xs [(i : Int), j, k, m] p ≤ 2 := by
    by_cases h : ∀ p, p < 15 → hvL xs [(i : Int), j, k, m] p ≤ 2
    · rw [anyP_false (fun p hp => by
        rw [cL_len] at hp
        have := h p hp
        rw [← hc] at this
        rw [cL_nth l hp]; unfold cF; simp; omega)]
      exact ⟨fun _ => h, fun _ => rfl⟩
    · refine ⟨fun g => absurd g ?_, fun g => absurd g h⟩
      simp only [Classical.not_forall] at h
      obtain ⟨p, hp, h2⟩ := h
      rw [← hc] at h2
      rw [anyP_true (k := p) (by rw [cL_len]; exact hp) (by rw [cL_nth l hp]; unfold cF; simp; omega)]
      simp
  rw [ha]
  exact And.comm

end Go.Proofs.Ytbknpflbafjblaa

/- Contracts of the program's test for a Pasch; conditions: stated in each. -/
namespace Go.Proofs.Ytbknpflbafjblaa
open Go.RowKit
set_option maxHeartbeats 1000000
set_option maxRecDepth 100000
set_option linter.unusedSimpArgs false
set_option linter.unusedVariables false

theorem indexInt_any (A : Option Addr) (c : Nat) (ls : List Int) (g : Nat) (p : Int → Bool) (w : World) (hA : Il w A ls) (hl : ls.length ≤ 1048576)
    (eg : ∀ args w, (callFunc g args).run Try.prog w = .ok (.enter g args) w)
    (hp : ∀ (W : World) (x : Int), Calls Try.prog g #[.int .i64 x] W fun e w' => e = .returned (.bool (p x)) ∧ Below W.heap.size W w') :
    Calls Try.prog 182 #[.slice A ls.length c, .func (.func g) #[] #[]] w fun e w' => ∃ r : Int, e = .returned (.int .i64 r) ∧ decide (r ≥ 0) = anyP p ls ∧ Below w.heap.size w w' := by
  have HA := Lib.hid hA; have HP := Lib.hid hp; clear hA hp
  go_enter Try.func182, Try.ntmps182
  go_wp2
  go_loopw [8] (fun i wr => ∃ k : Nat, k ≤ ls.length ∧ i = .int .i64 k ∧ Below w.heap.size w wr ∧ Hid (∀ j, j < k → p (nthI ls j) = false)) (fun i _ => ls.length - (intOf i).toNat)
  case atStart => exact ⟨0, by omega, rfl, Below.refl _ _, fun i hi => by omega⟩
  case round =>
    obtain ⟨k, hk, rfl, hb, HC⟩ := hrel
    by_cases hlt : k < ls.length
    · obtain ⟨b1, o1, hA1, hb1, p0⟩ := (HA.out.below hb).at_ hlt
      subst hA1
      go_wp2_with fail
      refine (HP.out _ (nthI ls k)).mono ?_
      cases hq : p (nthI ls k)
      · rintro e w1 ⟨rfl, hb1⟩
        have HB := Lib.hid (below_up hb hb1); clear hb1
        go_wp2
        go_roundw
        case rel =>
          refine ⟨k + 1, by omega, by go_num, HB.out, fun i hi => ?_⟩
          by_cases hij : i < k
          · exact HC.out i hij
          · obtain rfl : i = k := by omega
            exact hq
        case measure => simp [intOf]; omega
      · rintro e w1 ⟨rfl, hb1⟩
        have HB := Lib.hid (below_up hb hb1); clear hb1
        go_wp2
        go_ret
        exact ⟨(k : Int), rfl, by rw [anyP_true hlt hq]; simp, HB.out⟩
    · obtain rfl : k = ls.length := by omega
      go_wp2
      go_ret
      exact ⟨-1, rfl, by rw [anyP_false HC.out]; rfl, hb⟩

theorem containsInt_any (A : Option Addr) (c : Nat) (ls : List Int) (g : Nat) (p : Int → Bool) (w : World) (hA : Il w A ls) (hl : ls.length ≤ 1048576)
    (eg : ∀ args w, (callFunc g args).run Try.prog w = .ok (.enter g args) w)
    (hp : ∀ (W : World) (x : Int), Calls Try.prog g #[.int .i64 x] W fun e w' => e = .returned (.bool (p x)) ∧ Below W.heap.size W w') :
    Calls Try.prog 175 #[.slice A ls.length c, .func (.func g) #[] #[]] w fun e w' => e = .returned (.bool (anyP p ls)) ∧ Below w.heap.size w w' := by
  have HA := Lib.hid hA; have HP := Lib.hid hp; clear hA hp
  go_enter Try.func175, Try.ntmps175
  go_wp2_with fail
  refine (indexInt_any A c ls g p _ HA.out hl eg HP.out).mono ?_
  rintro e w1 ⟨r, rfl, hr, hb⟩
  have HB := Lib.hid hb; clear hb
  go_wp2
  go_ret
  exact ⟨ret_bool rfl, HB.out⟩
theorem isPasch1_any (x : Int) (w : World) : Calls Try.prog 176 #[.int .i64 x] w fun e w' => e = .returned (.bool (decide (x > 2))) ∧ Below w.heap.size w w' := by
  go_enter Try.func176, Try.ntmps176
  go_wp2
  go_ret
  exact ⟨ret_bool rfl, Below.refl _ _⟩

/-- a block of memory that counts points -/
def Wc (w : World) (g : Nat) (F : Nat → Int) : Prop := Row w g 173 (icells 15 F)
theorem Wc.lt {w : World} {g : Nat} {F : Nat → Int} (h : Wc w g F) : g < w.heap.size := Row.lt h
theorem Wc.below {w w' : World} {g : Nat} {F : Nat → Int} (h : Wc w g F) (hb : Below w.heap.size w w') : Wc w' g F := Row.below h hb
theorem Wc.cell {w : World} {g : Nat} {F : Nat → Int} (h : Wc w g F) {i : Nat} (hi : i < 15) : w.cell? ⟨g, i, none⟩ = some (.int .i64 (F i)) := (Row.cell h i).trans (icells_get F hi)
theorem Wc.frozen {w : World} {g : Nat} {F : Nat → Int} (h : Wc w g F) (i : Nat) : w.frozen? ⟨g, i, none⟩ = false := Row.frozen h i
theorem Wc.set {w : World} {g : Nat} {F : Nat → Int} (h : Wc w g F) (i : Nat) (v : Int) : Wc (w.setCell ⟨g, i, none⟩ (.int .i64 v)) g (upd F i v) := by
  have := Row.set h i (.int .i64 v)
  rw [icells_set] at this
  exact this
theorem Wc.il {w : World} {g : Nat} {l : List Int} (h : Wc w g (cF l)) : Il w (some ⟨g, 0, none⟩) (cL l) :=
  Il.row h fun k hk => by rw [cL_len] at hk; rw [icells_get _ hk, cL_nth l hk]
theorem isPasch_any (A : Option Addr) (c : Nat) (bs : List Blk) (w : World) (hA : Bl w A bs) (hl : bs.length ≤ 4) (hg : ∀ k, k < bs.length → goodB 15 (nth bs k) = true) :
    Calls Try.prog 162 #[.slice A bs.length c] w fun e w' => e = .returned (.bool (decide (PT (ptsB bs bs.length) = 6) && !anyP (fun x => decide (x > 2)) (cL (ptsB bs bs.length)))) ∧ Below w.heap.size w w' := by
  have HA := Lib.hid hA; have HGD := Lib.hid hg; clear hA hg
  have HP0 : Hid (ptsB bs 0 = []) := rfl
  have HPS : Hid (∀ k, ptsB bs (k + 1) = ptsB bs k ++ [(nth bs k).1, (nth bs k).2.1, (nth bs k).2.2]) := fun k => rfl
  have HPL : Hid (∀ k, (ptsB bs k).length = 3 * k) := ptsB_len bs
  generalize ptsB bs = P at *
  have HC0 : Hid (Wc (w.alloc (.cells #[.int .i64 0, .int .i64 0, .int .i64 0, .int .i64 0, .int .i64 0, .int .i64 0, .int .i64 0, .int .i64 0, .int .i64 0, .int .i64 0, .int .i64 0, .int .i64 0, .int .i64 0, .int .i64 0, .int .i64 0] 173)) w.heap.size (cF [])) := (Row.new w 173 _ : Row _ _ _ _)
  have HB0 := Lib.hid (below_alloc w (.cells #[.int .i64 0, .int .i64 0, .int .i64 0, .int .i64 0, .int .i64 0, .int .i64 0, .int .i64 0, .int .i64 0, .int .i64 0, .int .i64 0, .int .i64 0, .int .i64 0, .int .i64 0, .int .i64 0, .int .i64 0] 173))
  go_enter Try.func162, Try.ntmps162
  go_wp2
  generalize w.alloc _ = W at *
  go_loopw [4, 11] (fun u i wr => ∃ k : Nat, k ≤ bs.length ∧ i = .int .i64 k ∧ u = .int .i64 (PT (P k) : Nat) ∧ Hid (Below w.heap.size w wr ∧ Wc wr w.heap.size (cF (P k)))) (fun _ i _ => bs.length - (intOf i).toNat)
  case atStart => exact ⟨0, by omega, rfl, by rw [HP0.out]; rfl, HB0.out, by rw [HP0.out]; exact HC0.out⟩
  case round =>
    obtain ⟨k, hk, rfl, rfl, HC⟩ := hrel
    by_cases hlt : k < bs.length
    · obtain ⟨b1, o1, hA1, hb1, p0, p1, p2⟩ := (HA.out.below HC.out.1).at_ hlt
      subst hA1
      have hg := good_bd (HGD.out k hlt)
      have HPN := Lib.hid (HPS.out k)
      generalize nth bs k = bb at *
      obtain ⟨x0, x1, x2⟩ := bb
      simp only at hg
      obtain ⟨q0, rfl⟩ := Int.eq_ofNat_of_zero_le hg.1
      obtain ⟨q1, rfl⟩ := Int.eq_ofNat_of_zero_le (by omega : 0 ≤ x1)
      obtain ⟨q2, rfl⟩ := Int.eq_ofNat_of_zero_le (by omega : 0 ≤ x2)
      simp only at p0 p1 p2
      go_wp2
      have HBX := Lib.hid (below_alloc wr (.cells #[.int .i64 (q0 : Int), .int .i64 (q1 : Int), .int .i64 (q2 : Int)] 99))
      have HWX := Lib.hid (HC.out.2.below HBX.out)
      have HBW := Lib.hid (below_up HC.out.1 HBX.out)
      clear HC HBX p0 p1 p2 hb1
      generalize wr.alloc _ = wo at *
      obtain ⟨Q, hQ0, hQ1, hQ2, hQ3, hQP, hQL⟩ : ∃ Q : Nat → List Int, Q 0 = P k ∧ Q 1 = Q 0 ++ [(q0 : Int)] ∧ Q 2 = Q 1 ++ [(q1 : Int)] ∧ Q 3 = Q 2 ++ [(q2 : Int)] ∧ Q 3 = P (k + 1) ∧ ∀ t, t ≤ 3 → (Q t).length = 3 * k + t := by
        refine ⟨fun t => P k ++ [(q0 : Int), q1, q2].take t, by simp, by simp, by simp, by simp, by rw [HPN.out]; rfl, fun t ht => ?_⟩
        rw [List.length_append, HPL.out, List.length_take]
        simp; omega
      have HQ1 := Lib.hid hQ1; have HQ2 := Lib.hid hQ2; have HQ3 := Lib.hid hQ3; have HQL := Lib.hid hQL
      clear hQ1 hQ2 hQ3 hQL
      rw [← hQ0] at HWX
      rw [← hQ0]
      have HQP := Lib.hid hQP
      have HQ0 := Lib.hid hQ0
      clear hQP hQ0 HPN
      go_loopw [4, 16] (fun u i wr => ∃ t : Nat, t ≤ 3 ∧ i = .int .i64 t ∧ u = .int .i64 (PT (Q t) : Nat) ∧ Hid (Below w.heap.size w wr ∧ Wc wr w.heap.size (cF (Q t)))) (fun _ i _ => 3 - (intOf i).toNat)
      case atStart => exact ⟨0, by omega, rfl, rfl, HBW.out, HWX.out⟩
      case round =>
        clear HBW HWX
        obtain ⟨t, ht, rfl, rfl, HC⟩ := hrel
        obtain rfl | rfl | rfl | rfl : t = 0 ∨ t = 1 ∨ t = 2 ∨ t = 3 := by omega
        · have i0 := idx0 (q0 : Int) q1 q2
          have HQ1 := Lib.hid HQ1.out
          have hqr : q0 < 15 := by omega
          have y0 := HC.out.2.cell (i := q0) hqr
          have yf := HC.out.2.frozen q0
          have yl := HC.out.2.lt
          have hrg := cF_rng (Q 0) q0
          rw [HQL.out 0 (by omega)] at hrg
          have hpt := PT_le (Q 0)
          have HS : Hid (Wc (wr.setCell ⟨w.heap.size, q0, none⟩ (.int .i64 (cF (Q 0) q0 + 1))) w.heap.size (cF (Q 1))) := by unfold Hid; rw [HQ1.out, cF_snoc]; exact HC.out.2.set q0 _
          have y1 : (wr.setCell ⟨w.heap.size, q0, none⟩ (.int .i64 (cF (Q 0) q0 + 1))).cell? ⟨w.heap.size, q0, none⟩ = some (.int .i64 (cF (Q 0) q0 + 1)) := by
            have := HS.out.cell (i := q0) hqr
            rw [this, HQ1.out, cF_snoc, upd, if_pos rfl]
          have HBS := Lib.hid (HC.out.1.setCell (p := ⟨w.heap.size, q0, none⟩) (Nat.le_refl _) (.int .i64 (cF (Q 0) q0 + 1)))
          have HPT : Hid (PT (Q 1) = PT (Q 0) + (if cF (Q 0) q0 + 1 = 1 then 1 else 0)) := by unfold Hid; rw [HQ1.out]; exact PT_snoc hqr
          generalize cF (Q 0) q0 = C at *
          generalize PT (Q 0) = N at *
          by_cases h1 : C + 1 = 1
          · have HPN2 : Hid (PT (Q 1) = N + 1) := by unfold Hid; rw [HPT.out, if_pos h1]
            obtain rfl : C = 0 := by omega
            simp only [show (0 : Int) + 1 = 1 from rfl] at HS HBS y1
            clear h1
            go_wp2
            go_roundw
            case rel => exact ⟨1, by omega, by go_num, by rw [HPN2.out]; go_num, HBS.out, HS.out⟩
            case measure => simp [intOf]
          · have HPN2 : Hid (PT (Q 1) = N) := by unfold Hid; rw [HPT.out, if_neg h1, Nat.add_zero]
            have h1' : (C + 1 == 1) = false := by simpa using h1
            go_wp2
            go_roundw
            case rel => exact ⟨1, by omega, by go_num, by rw [HPN2.out], HBS.out, HS.out⟩
            case measure => simp [intOf]
        · have i0 := idx1 (q0 : Int) q1 q2
          have HQ1 := Lib.hid HQ2.out
          have hqr : q1 < 15 := by omega
          have y0 := HC.out.2.cell (i := q1) hqr
          have yf := HC.out.2.frozen q1
          have yl := HC.out.2.lt
          have hrg := cF_rng (Q 1) q1
          rw [HQL.out 1 (by omega)] at hrg
          have hpt := PT_le (Q 1)
          have HS : Hid (Wc (wr.setCell ⟨w.heap.size, q1, none⟩ (.int .i64 (cF (Q 1) q1 + 1))) w.heap.size (cF (Q 2))) := by unfold Hid; rw [HQ1.out, cF_snoc]; exact HC.out.2.set q1 _
          have y1 : (wr.setCell ⟨w.heap.size, q1, none⟩ (.int .i64 (cF (Q 1) q1 + 1))).cell? ⟨w.heap.size, q1, none⟩ = some (.int .i64 (cF (Q 1) q1 + 1)) := by
            have := HS.out.cell (i := q1) hqr
            rw [this, HQ1.out, cF_snoc, upd, if_pos rfl]
          have HBS := Lib.hid (HC.out.1.setCell (p := ⟨w.heap.size, q1, none⟩) (Nat.le_refl _) (.int .i64 (cF (Q 1) q1 + 1)))
          have HPT : Hid (PT (Q 2) = PT (Q 1) + (if cF (Q 1) q1 + 1 = 1 then 1 else 0)) := by unfold Hid; rw [HQ1.out]; exact PT_snoc hqr
          generalize cF (Q 1) q1 = C at *
          generalize PT (Q 1) = N at *
          by_cases h1 : C + 1 = 1
          · have HPN2 : Hid (PT (Q 2) = N + 1) := by unfold Hid; rw [HPT.out, if_pos h1]
            obtain rfl : C = 0 := by omega
            simp only [show (0 : Int) + 1 = 1 from rfl] at HS HBS y1
            clear h1
            go_wp2
            go_roundw
            case rel => exact ⟨2, by omega, by go_num, by rw [HPN2.out]; go_num, HBS.out, HS.out⟩
            case measure => simp [intOf]
          · have HPN2 : Hid (PT (Q 2) = N) := by unfold Hid; rw [HPT.out, if_neg h1, Nat.add_zero]
            have h1' : (C + 1 == 1) = false := by simpa using h1
            go_wp2
            go_roundw
            case rel => exact ⟨2, by omega, by go_num, by rw [HPN2.out], HBS.out, HS.out⟩
            case measure => simp [intOf]
        · have i0 := idx2 (q0 : Int) q1 q2
          have HQ1 := Lib.hid HQ3.out
          have hqr : q2 < 15 := by omega
          have y0 := HC.out.2.cell (i := q2) hqr
          have yf := HC.out.2.frozen q2
          have yl := HC.out.2.lt
          have hrg := cF_rng (Q 2) q2
          rw [HQL.out 2 (by omega)] at hrg
          have hpt := PT_le (Q 2)
          have HS : Hid (Wc (wr.setCell ⟨w.heap.size, q2, none⟩ (.int .i64 (cF (Q 2) q2 + 1))) w.heap.size (cF (Q 3))) := by unfold Hid; rw [HQ1.out, cF_snoc]; exact HC.out.2.set q2 _
          have y1 : (wr.setCell ⟨w.heap.size, q2, none⟩ (.int .i64 (cF (Q 2) q2 + 1))).cell? ⟨w.heap.size, q2, none⟩ = some (.int .i64 (cF (Q 2) q2 + 1)) := by
            have := HS.out.cell (i := q2) hqr
            rw [this, HQ1.out, cF_snoc, upd, if_pos rfl]
          have HBS := Lib.hid (HC.out.1.setCell (p := ⟨w.heap.size, q2, none⟩) (Nat.le_refl _) (.int .i64 (cF (Q 2) q2 + 1)))
          have HPT : Hid (PT (Q 3) = PT (Q 2) + (if cF (Q 2) q2 + 1 = 1 then 1 else 0)) := by unfold Hid; rw [HQ1.out]; exact PT_snoc hqr
          generalize cF (Q 2) q2 = C at *
          generalize PT (Q 2) = N at *
          by_cases h1 : C + 1 = 1
          · have HPN2 : Hid (PT (Q 3) = N + 1) := by unfold Hid; rw [HPT.out, if_pos h1]
            obtain rfl : C = 0 := by omega
            simp only [show (0 : Int) + 1 = 1 from rfl] at HS HBS y1
            clear h1
            go_wp2
            go_roundw
            case rel => exact ⟨3, by omega, by go_num, by rw [HPN2.out]; go_num, HBS.out, HS.out⟩
            case measure => simp [intOf]
          · have HPN2 : Hid (PT (Q 3) = N) := by unfold Hid; rw [HPT.out, if_neg h1, Nat.add_zero]
            have h1' : (C + 1 == 1) = false := by simpa using h1
            go_wp2
            go_roundw
            case rel => exact ⟨3, by omega, by go_num, by rw [HPN2.out], HBS.out, HS.out⟩
            case measure => simp [intOf]
        · go_wp2
          go_roundw
          case rel => exact ⟨k + 1, by omega, by go_num, by rw [HQP.out], HC.out.1, by rw [← HQP.out]; exact HC.out.2⟩
          case measure => simp [intOf]; omega
    · obtain rfl : k = bs.length := by omega
      have HWC := Lib.hid HC.out.2
      have HWB := Lib.hid HC.out.1
      have hlw := HWC.out.lt
      by_cases h6 : PT (P bs.length) = 6
      · go_wp2_with fail
        refine (containsInt_any _ _ (cL (P bs.length)) 176 (fun x => decide (x > 2)) _ HWC.out.il (by rw [cL_len]; omega) (fun args w => rfl) (fun W x => isPasch1_any x W)).mono ?_
        rintro e w1 ⟨rfl, hb⟩
        have HB1 := Lib.hid (below_up HWB.out hb); clear hb
        go_wp2
        go_ret
        exact ⟨ret_bool (by rw [decide_eq_true h6]; simp), HB1.out⟩
      · go_wp2
        go_ret
        exact ⟨ret_bool (by rw [decide_eq_false h6]; simp), HWB.out⟩

end Go.Proofs.Ytbknpflbafjblaa
