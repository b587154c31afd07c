/- Plain laws and contracts, part 8; conditions: stated in each. -/
import Derived.Laws.MakeOwn
import Derived.StillTailTactics
import Derived.Deep.AppendLies
import Derived.Test.YtbknpflbafjblaaB1
import Derived.Test.YtbknpflbafjblaaB2
import Derived.Test.YtbknpflbafjblaaB4
import Derived.Test.YtbknpflbafjblaaB6
set_option linter.unusedSimpArgs false
set_option linter.unusedVariables false
/- Plain laws of the renumberings of full systems: both searches find the same ones, and there are fewer than a million. Conditions: none. -/
namespace Go.Proofs.Ytbknpflbafjblaa

/-- third points of n points, each pair in just one block -/
structure Sts (n : Nat) (T : Nat → Nat → Nat) : Prop where
  rng : ∀ a b, a < n → b < n → a ≠ b → T a b < n ∧ T a b ≠ a ∧ T a b ≠ b
  sym : ∀ a b, T a b = T b a
  inv : ∀ a b, a < n → b < n → a ≠ b → T a (T a b) = b
def im (L : List Int) (k : Nat) : Nat := (nthI L k).toNat
noncomputable def usedB (L : List Int) (i : Nat) : Bool := open Classical in decide (∃ k, k < L.length ∧ im L k = i)
theorem usedB_iff {L : List Int} {i : Nat} : usedB L i = true ↔ ∃ k, k < L.length ∧ im L k = i := by unfold usedB; simp
theorem usedB_not {L : List Int} {i : Nat} : usedB L i = false ↔ ∀ k, k < L.length → im L k ≠ i := by unfold usedB; simp
noncomputable def fitI (T1 T2 : Nat → Nat → Nat) (L : List Int) (i : Nat) : Bool := open Classical in decide (usedB L i = false ∧ ∀ a, a < L.length → T1 a L.length < L.length → T2 (im L a) i = im L (T1 a L.length))
noncomputable def fitS (T1 T2 : Nat → Nat → Nat) (L : List Int) (i : Nat) : Bool := open Classical in decide (usedB L i = false ∧ ∀ q, q < L.length → (T1 L.length q < L.length → im L (T1 L.length q) = T2 i (im L q)) ∧ (¬ T1 L.length q < L.length → usedB L (T2 i (im L q)) = false))
theorem fitI_iff {T1 T2 : Nat → Nat → Nat} {L : List Int} {i : Nat} : fitI T1 T2 L i = true ↔ usedB L i = false ∧ ∀ a, a < L.length → T1 a L.length < L.length → T2 (im L a) i = im L (T1 a L.length) := by unfold fitI; simp
theorem fitS_iff {T1 T2 : Nat → Nat → Nat} {L : List Int} {i : Nat} : fitS T1 T2 L i = true ↔ usedB L i = false ∧ ∀ q, q < L.length → (T1 L.length q < L.length → im L (T1 L.length q) = T2 i (im L q)) ∧ (¬ T1 L.length q < L.length → usedB L (T2 i (im L q)) = false) := by unfold fitS; simp
/-- all lists that go on from one -/
def enumL (n : Nat) (ok : List Int → Nat → Bool) : Nat → List Int → List (List Int)
  | 0, L => [L]
  | d + 1, L => loopL (fun i => enumL n ok d (L ++ [(i : Int)])) (ok L) 0 n
theorem loop_mem {f : Nat → List (List Int)} {p : Nat → Bool} {a : Nat} : ∀ {m : Nat} {l : List Int}, l ∈ loopL f p a m → ∃ i, a ≤ i ∧ i < m ∧ p i = true ∧ l ∈ f i := by
  intro m
  induction m with
  | zero => intro l h; simp [loopL] at h
  | succ m ih =>
    intro l h
    rw [loopL, List.mem_append] at h
    rcases h with h | h
    · obtain ⟨i, h1, h2, h3⟩ := ih h; exact ⟨i, h1, by omega, h3⟩
    · by_cases e : a ≤ m ∧ p m = true
      · rw [if_pos e] at h; exact ⟨m, e.1, by omega, e.2, h⟩
      · rw [if_neg e] at h; simp at h
theorem loop_same {f g : Nat → List (List Int)} {p q : Nat → Bool} {n : Nat} (h : ∀ i, i < n → (p i = true → q i = true ∧ f i = g i) ∧ (p i = false → q i = true → g i = [])) : ∀ m, m ≤ n → loopL f p 0 m = loopL g q 0 m := by
  intro m
  induction m with
  | zero => intro _; rfl
  | succ m ih =>
    intro hm
    rw [loopL, loopL, ih (by omega)]
    congr 1
    obtain ⟨h1, h2⟩ := h m (by omega)
    cases hp : p m
    · rw [if_neg (by simp)]
      cases hq : q m
      · rw [if_neg (by simp)]
      · rw [if_pos ⟨Nat.zero_le _, rfl⟩, h2 hp hq]
    · obtain ⟨hq, e⟩ := h1 hp
      rw [if_pos ⟨Nat.zero_le _, rfl⟩, if_pos ⟨Nat.zero_le _, hq⟩, e]
theorem im_app {L : List Int} {x : Int} {k : Nat} (h : k < L.length) : im (L ++ [x]) k = im L k := by unfold im; rw [nthI_app h]
theorem im_last (L : List Int) (i : Nat) : im (L ++ [(i : Int)]) L.length = i := by unfold im; rw [nthI_last]; rfl
/-- a beginning of a renumbering -/
structure Val (n : Nat) (T1 T2 : Nat → Nat → Nat) (L : List Int) : Prop where
  len : L.length ≤ n
  rng : ∀ k, k < L.length → im L k < n ∧ nthI L k = (im L k : Int)
  inj : ∀ j k, j < L.length → k < L.length → im L j = im L k → j = k
  hom : ∀ a b, a < L.length → b < L.length → a ≠ b → T1 a b < L.length → T2 (im L a) (im L b) = im L (T1 a b)
theorem val_nil (n : Nat) (T1 T2 : Nat → Nat → Nat) : Val n T1 T2 [] := ⟨by simp, fun k hk => by simp at hk, fun j k hj => by simp at hj, fun a b ha => by simp at ha⟩
theorem val_step {n : Nat} {T1 T2 : Nat → Nat → Nat} (h1 : Sts n T1) (h2 : Sts n T2) {L : List Int} {i : Nat} (hv : Val n T1 T2 L) (hl : L.length < n) (hi : i < n) (ok : fitI T1 T2 L i = true) : Val n T1 T2 (L ++ [(i : Int)]) := by
  obtain ⟨hu, hg⟩ := fitI_iff.1 ok
  rw [usedB_not] at hu
  have hlen : (L ++ [(i : Int)]).length = L.length + 1 := by simp
  have hne : ∀ k, k < L.length → im L k ≠ i := hu
  refine ⟨by rw [hlen]; omega, fun k hk => ?_, fun j k hj hk e => ?_, fun a b ha hb hab hT => ?_⟩
  · rw [hlen] at hk
    by_cases e : k = L.length
    · subst e; rw [im_last, nthI_last]; exact ⟨hi, rfl⟩
    · rw [im_app (by omega), nthI_app (by omega)]; exact hv.rng k (by omega)
  · rw [hlen] at hj hk
    by_cases ej : j = L.length <;> by_cases ek : k = L.length
    · omega
    · subst ej; rw [im_last, im_app (by omega)] at e; exact absurd e.symm (hne k (by omega))
    · subst ek; rw [im_last, im_app (by omega)] at e; exact absurd e (hne j (by omega))
    · rw [im_app (by omega), im_app (by omega)] at e; exact hv.inj j k (by omega) (by omega) e
  · rw [hlen] at ha hb hT
    by_cases ea : a = L.length
    · subst ea
      have hbl : b < L.length := by omega
      have hr := h1.rng L.length b hl (by omega) hab
      have hTl : T1 L.length b < L.length := by omega
      rw [im_last, im_app hbl, im_app hTl, h2.sym, h1.sym]
      rw [h1.sym] at hTl
      exact hg b hbl hTl
    · by_cases eb : b = L.length
      · subst eb
        have hal : a < L.length := by omega
        have hr := h1.rng a L.length (by omega) hl hab
        have hTl : T1 a L.length < L.length := by omega
        rw [im_last, im_app hal, im_app hTl]
        exact hg a hal hTl
      · have hal : a < L.length := by omega
        have hbl : b < L.length := by omega
        by_cases eT : T1 a b = L.length
        · rw [im_app hal, im_app hbl, eT, im_last]
          have e1 : T1 a L.length = b := by rw [← eT]; exact h1.inv a b (by omega) (by omega) hab
          have e2 := hg a hal (by rw [e1]; exact hbl)
          rw [e1] at e2
          rw [← e2]
          exact h2.inv _ _ (hv.rng a hal).1 hi (hne a hal)
        · rw [im_app hal, im_app hbl, im_app (by omega)]
          exact hv.hom a b hal hbl hab (by omega)
theorem enum_val {n : Nat} {T1 T2 : Nat → Nat → Nat} (h1 : Sts n T1) (h2 : Sts n T2) : ∀ d L, Val n T1 T2 L → L.length + d = n → ∀ M ∈ enumL n (fitI T1 T2) d L, Val n T1 T2 M ∧ M.length = n ∧ ∀ k, k < L.length → nthI M k = nthI L k := by
  intro d
  induction d with
  | zero => intro L hv hd M hM; rw [enumL, List.mem_singleton] at hM; subst hM; exact ⟨hv, by omega, fun _ _ => rfl⟩
  | succ d ih =>
    intro L hv hd M hM
    rw [enumL] at hM
    obtain ⟨i, _, hi, ok, hM⟩ := loop_mem hM
    obtain ⟨k1, k2, k3⟩ := ih _ (val_step h1 h2 hv (by omega) hi ok) (by simp; omega) M hM
    exact ⟨k1, k2, fun k hk => by rw [k3 k (by simp; omega), nthI_app hk]⟩
theorem enum_at {n : Nat} {ok : List Int → Nat → Bool} : ∀ d L, ∀ M ∈ enumL n ok d L, M.length = L.length + d ∧ ∀ k, k < L.length → nthI M k = nthI L k := by
  intro d
  induction d with
  | zero => intro L M hM; rw [enumL, List.mem_singleton] at hM; subst hM; exact ⟨by omega, fun _ _ => rfl⟩
  | succ d ih =>
    intro L M hM
    rw [enumL] at hM
    obtain ⟨i, _, hi, _, hM⟩ := loop_mem hM
    obtain ⟨k2, k3⟩ := ih _ M hM
    rw [List.length_append, List.length_singleton] at k2
    exact ⟨by omega, fun k hk => by rw [k3 k (by simp; omega), nthI_app hk]⟩
theorem enum_same {n : Nat} {T1 T2 : Nat → Nat → Nat} (h1 : Sts n T1) (h2 : Sts n T2) : ∀ d L, Val n T1 T2 L → L.length + d = n → enumL n (fitS T1 T2) d L = enumL n (fitI T1 T2) d L := by
  intro d
  induction d with
  | zero => intro L _ _; rfl
  | succ d ih =>
    intro L hv hd
    rw [enumL, enumL]
    refine loop_same (n := n) (fun i hi => ⟨fun hs => ?_, fun hs hI => ?_⟩) n (Nat.le_refl _)
    · obtain ⟨hu, hg⟩ := fitS_iff.1 hs
      have hI : fitI T1 T2 L i = true := fitI_iff.2 ⟨hu, fun a ha hT => by
        rw [h1.sym] at hT ⊢
        rw [(hg a ha).1 hT, h2.sym]⟩
      exact ⟨hI, ih _ (val_step h1 h2 hv (by omega) hi hI) (by simp; omega)⟩
    · obtain ⟨hu, hg⟩ := fitI_iff.1 hI
      rw [List.eq_nil_iff_forall_not_mem]
      intro M hM
      obtain ⟨k1, k2, k3⟩ := enum_val h1 h2 d _ (val_step h1 h2 hv (by omega) hi hI) (by simp; omega) M hM
      rw [← Bool.not_eq_true, fitS_iff] at hs
      apply hs
      refine ⟨hu, fun q hq => ⟨fun hT => ?_, fun hT => ?_⟩⟩
      · have := hg q hq (by rw [h1.sym]; exact hT)
        rw [h1.sym L.length q, ← this, h2.sym]
      · rw [usedB_not]
        intro j hj e
        have hr := h1.rng L.length q (by omega) (by omega) (by omega)
        have e1 : im M L.length = i := by unfold im; rw [k3 _ (by simp), nthI_last]; rfl
        have e2 : ∀ k, k < L.length → im M k = im L k := fun k hk => by unfold im; rw [k3 k (by simp; omega), nthI_app hk]
        have hh := k1.hom L.length q (by omega) (by omega) (by omega) (by omega)
        rw [e1, e2 q hq, ← e, ← e2 j hj] at hh
        have := k1.inj j (T1 L.length q) (by omega) (by omega) hh
        omega
theorem loop_nodup {f : Nat → List (List Int)} {p : Nat → Bool} (h1 : ∀ i, (f i).Nodup) (h2 : ∀ i j l, l ∈ f i → l ∈ f j → i = j) : ∀ m, (loopL f p 0 m).Nodup := by
  intro m
  induction m with
  | zero => simp [loopL]
  | succ m ih =>
    rw [loopL]
    split
    · rw [List.nodup_append]
      refine ⟨ih, h1 m, ?_⟩
      intro a ha b hb e
      subst e
      obtain ⟨i, _, hi, _, h⟩ := loop_mem ha
      have := h2 i m a h hb
      omega
    · rw [List.append_nil]; exact ih
theorem enum_nodup {n : Nat} {ok : List Int → Nat → Bool} : ∀ d L, (enumL n ok d L).Nodup := by
  intro d
  induction d with
  | zero => intro L; simp [enumL]
  | succ d ih =>
    intro L
    rw [enumL]
    refine loop_nodup (fun i => ih _) (fun i j l h1 h2 => ?_) n
    have e1 := (enum_at d _ l h1).2 L.length (by simp)
    have e2 := (enum_at d _ l h2).2 L.length (by simp)
    rw [nthI_last] at e1 e2
    omega
theorem nodup_lt : ∀ (N : Nat) (l : List Nat), l.Nodup → (∀ x ∈ l, x < N) → l.length ≤ N := by
  intro N
  induction N with
  | zero =>
    intro l _ h
    cases l with
    | nil => simp
    | cons x l => have := h x (by simp); omega
  | succ N ih =>
    intro l hn h
    have h2 := ih (l.erase N) (hn.erase N) (fun x hx => by
      have h3 := (hn.mem_erase_iff).1 hx
      have := h x h3.2
      have := h3.1
      omega)
    have := List.length_erase_le (a := N) (l := l)
    by_cases hm : N ∈ l
    · rw [List.length_erase_of_mem hm] at h2
      omega
    · rw [List.erase_of_not_mem hm] at h2; omega

/-! Few points give all of a full system. -/
theorem sumN_swap (f : Nat → Nat → Nat) (n : Nat) : ∀ m, sumN (fun i => sumN (f i) n) m = sumN (fun j => sumN (fun i => f i j) m) n := by
  intro m
  induction m with
  | zero =>
    have : sumN (fun j => sumN (fun i => f i j) 0) n = sumN (fun _ => 0) n := sumN_congr n fun j _ => rfl
    rw [this, sumN_const]; simp [sumN]
  | succ m ih =>
    rw [sumN, ih, ← sumN_add]
    exact sumN_congr n fun j _ => rfl
theorem sumN_at (a n : Nat) (P : Bool) : sumN (fun j => if (decide (j = a) && P) = true then 1 else 0) n = if a < n ∧ P = true then 1 else 0 := by
  rw [sumN_cnt]
  induction n with
  | zero => simp [cntF]
  | succ n ih =>
    rw [cntF, ih]
    by_cases e : n = a
    · subst e
      cases P <;> simp
    · by_cases hl : a < n
      · have : a < n + 1 := by omega
        simp [e, hl, this]
      · have : ¬ a < n + 1 := by omega
        simp [e, hl, this]
theorem cnt_turn {n x : Nat} {T : Nat → Nat → Nat} (hT : Sts n T) (hx : x < n) {f : Nat → Bool} (hf : f x = false) : cntF (fun b => decide (b ≠ x) && f (T x b)) n = cntF f n := by
  rw [← sumN_cnt, ← sumN_cnt]
  have e1 : ∀ b, b < n → (if (decide (b ≠ x) && f (T x b)) = true then 1 else 0) = sumN (fun a => if (decide (a = T x b) && (decide (b ≠ x) && f (T x b))) = true then 1 else 0) n := by
    intro b hb
    rw [sumN_at]
    by_cases e : b = x
    · simp [e]
    · have := (hT.rng x b hx hb (Ne.symm e)).1
      simp [e, this]
  rw [sumN_congr n e1, sumN_swap]
  refine sumN_congr n fun a ha => ?_
  by_cases e : a = x
  · subst e
    have : ∀ b, b < n → (if (decide (a = T a b) && (decide (b ≠ a) && f (T a b))) = true then 1 else 0) = (fun _ => 0) b := by
      intro b hb
      by_cases e2 : b = a
      · simp [e2]
      · have := (hT.rng a b hx hb (Ne.symm e2)).2.1
        simp [Ne.symm this]
    rw [sumN_congr n this, sumN_const, hf]; simp
  · have hr := hT.rng x a hx ha (Ne.symm e)
    have : ∀ b, b < n → (if (decide (a = T x b) && (decide (b ≠ x) && f (T x b))) = true then 1 else 0) = (if (decide (b = T x a) && f a) = true then 1 else 0) := by
      intro b hb
      by_cases e2 : a = T x b
      · by_cases e3 : b = x
        · subst e3
          have hne : ¬ b = T b a := fun h => hr.2.1 h.symm
          simp [hne]
        · have e4 : b = T x a := by rw [e2]; exact (hT.inv x b hx hb (Ne.symm e3)).symm
          rw [← e2]
          simp [e3, ← e4]
      · have e4 : ¬ b = T x a := fun h => e2 (by rw [h]; exact (hT.inv x a hx ha (Ne.symm e)).symm)
        simp [e2, e4]
    rw [sumN_congr n this, sumN_at]
    simp [hr.1]
def Cls (n : Nat) (T : Nat → Nat → Nat) (S : Nat → Bool) : Prop := ∀ a b, a < n → b < n → a ≠ b → S a = true → S b = true → S (T a b) = true
def Gen (n : Nat) (T : Nat → Nat → Nat) (gs : List Nat) (c : Nat) : Prop := ∀ S, Cls n T S → (∀ g ∈ gs, S g = true) → c ≤ cntF S n
theorem cntF_mono {f g : Nat → Bool} (n : Nat) (h : ∀ j, j < n → f j = true → g j = true) : cntF f n ≤ cntF g n := by
  induction n with
  | zero => simp [cntF]
  | succ n ih =>
    have h1 := ih (fun j hj => h j (by omega)); have h2 := h n (by omega)
    rw [cntF, cntF]
    cases hf : f n <;> cases hg : g n <;> simp_all <;> omega
noncomputable def hull (n : Nat) (T : Nat → Nat → Nat) (gs : List Nat) (a : Nat) : Bool := open Classical in decide (∀ S, Cls n T S → (∀ g ∈ gs, S g = true) → S a = true)
theorem hull_iff {n : Nat} {T : Nat → Nat → Nat} {gs : List Nat} {a : Nat} : hull n T gs a = true ↔ ∀ S, Cls n T S → (∀ g ∈ gs, S g = true) → S a = true := by unfold hull; simp
theorem gen_step {n c : Nat} {T : Nat → Nat → Nat} (hT : Sts n T) (hn : 0 < n) {gs : List Nat} (h : Gen n T gs c) : ∃ x, x < n ∧ Gen n T (x :: gs) (min n (2 * c + 1)) := by
  have hcl : Cls n T (hull n T gs) := by
    intro a b ha hb hab h1 h2
    rw [hull_iff] at *
    intro S hS hg
    exact hS a b ha hb hab (h1 S hS hg) (h2 S hS hg)
  have hgs : ∀ g ∈ gs, hull n T gs g = true := fun g hg => hull_iff.2 fun S _ hS => hS g hg
  have hc := h _ hcl hgs
  by_cases hall : ∀ a, a < n → hull n T gs a = true
  · refine ⟨0, hn, fun S hS hg => ?_⟩
    have : cntF S n = n := (cntF_all n).2 fun a ha => hull_iff.1 (hall a ha) S hS (fun g hg' => hg g (by simp [hg']))
    omega
  · simp only [Classical.not_forall] at hall
    obtain ⟨x, hx, hnx⟩ := hall
    have hfx : hull n T gs x = false := by simpa using hnx
    refine ⟨x, hx, fun S hS hg => ?_⟩
    have hSx := hg x (by simp)
    have hsub : ∀ a, hull n T gs a = true → S a = true := fun a ha => hull_iff.1 ha S hS (fun g hg' => hg g (by simp [hg']))
    have e1 := cnt_turn hT hx hfx
    have hor1 := cntF_or (f := fun b => decide (b = x)) (g := fun b => decide (b ≠ x) && hull n T gs (T x b)) (h := fun b => decide (b = x) || (decide (b ≠ x) && hull n T gs (T x b))) n (fun j _ => ⟨rfl, by by_cases e : j = x <;> simp [e]⟩)
    have hor2 := cntF_or (f := hull n T gs) (g := fun b => decide (b = x) || (decide (b ≠ x) && hull n T gs (T x b))) (h := fun b => hull n T gs b || (decide (b = x) || (decide (b ≠ x) && hull n T gs (T x b)))) n (fun j hj => ⟨rfl, by
      by_cases e : j = x
      · subst e; simp [hfx]
      · cases hj1 : hull n T gs j
        · simp
        · cases hj2 : hull n T gs (T x j)
          · simp [e, hj2]
          · exfalso
            have hr := hT.rng x j hx hj (Ne.symm e)
            have := hcl j (T x j) hj hr.1 (Ne.symm hr.2.2) hj1 hj2
            rw [hT.sym x j, hT.inv j x hj hx e] at this
            rw [hfx] at this; cases this⟩)
    have hmono := cntF_mono (f := fun b => hull n T gs b || (decide (b = x) || (decide (b ≠ x) && hull n T gs (T x b)))) (g := S) n (fun j hj h => by
      simp only [Bool.or_eq_true, Bool.and_eq_true, decide_eq_true_eq] at h
      rcases h with h | h | ⟨h1, h2⟩
      · exact hsub j h
      · rw [h]; exact hSx
      · have hr := hT.rng x j hx hj (Ne.symm h1)
        have := hS x (T x j) hx hr.1 (Ne.symm hr.2.1) hSx (hsub _ h2)
        rw [hT.inv x j hx hj (Ne.symm h1)] at this
        exact this)
    have e2 := cntF_eq x n hx
    omega
theorem gen_four {n : Nat} {T : Nat → Nat → Nat} (hT : Sts n T) (hn : 0 < n) (h15 : n ≤ 15) : ∃ a b c d, a < n ∧ b < n ∧ c < n ∧ d < n ∧ ∀ S, Cls n T S → S a = true → S b = true → S c = true → S d = true → ∀ k, k < n → S k = true := by
  obtain ⟨a, ha, h1⟩ := gen_step hT hn (gs := []) (c := 0) (fun S _ _ => Nat.zero_le _)
  obtain ⟨b, hb, h2⟩ := gen_step hT hn h1
  obtain ⟨c, hc, h3⟩ := gen_step hT hn h2
  obtain ⟨d, hd, h4⟩ := gen_step hT hn h3
  refine ⟨a, b, c, d, ha, hb, hc, hd, fun S hS sa sb sc sd => ?_⟩
  have h5 := h4 S hS (by intro g hg; simp at hg; rcases hg with rfl | rfl | rfl | rfl <;> assumption)
  have := cntF_le S n
  exact (cntF_all n).1 (by omega)
theorem autos_few {n : Nat} {T1 T2 : Nat → Nat → Nat} (h1 : Sts n T1) (h2 : Sts n T2) (hn : 0 < n) (h15 : n ≤ 15) : (enumL n (fitI T1 T2) n []).length ≤ 50625 := by
  obtain ⟨a, b, c, d, ha, hb, hc, hd, hg⟩ := gen_four h1 hn h15
  have hv := enum_val h1 h2 n [] (val_nil n T1 T2) (by simp)
  have hk : ((enumL n (fitI T1 T2) n []).map fun M => ((im M a * 15 + im M b) * 15 + im M c) * 15 + im M d).Nodup := by
    rw [List.nodup_iff_pairwise_ne, List.pairwise_map]
    have hnd := enum_nodup (n := n) (ok := fitI T1 T2) n []
    rw [List.nodup_iff_pairwise_ne] at hnd
    refine List.Pairwise.imp_of_mem (fun {M M'} hM hM' hne e => hne ?_) hnd
    obtain ⟨v1, l1, _⟩ := hv M hM
    obtain ⟨v2, l2, _⟩ := hv M' hM'
    have r : ∀ k, k < n → im M k < 15 ∧ im M' k < 15 := fun k hk => ⟨Nat.lt_of_lt_of_le (v1.rng k (by omega)).1 h15, Nat.lt_of_lt_of_le (v2.rng k (by omega)).1 h15⟩
    have ra := r a ha; have rb := r b hb; have rc := r c hc; have rd := r d hd
    have hS : Cls n T1 (fun k => decide (im M k = im M' k)) := by
      intro p q hp hq hpq s1 s2
      simp only [decide_eq_true_eq] at *
      have hr := (h1.rng p q hp hq hpq).1
      rw [← v1.hom p q (by omega) (by omega) hpq (by omega), ← v2.hom p q (by omega) (by omega) hpq (by omega), s1, s2]
    have hall := hg _ hS (by simp; omega) (by simp; omega) (by simp; omega) (by simp; omega)
    simp only [decide_eq_true_eq] at hall
    apply List.ext_getElem (by omega)
    intro k hk1 hk2
    have e1 := (v1.rng k hk1).2
    have e2 := (v2.rng k hk2).2
    have e3 := hall k (by omega)
    unfold nthI at e1 e2
    simp only [List.getD_eq_getElem?_getD, List.getElem?_eq_getElem hk1, List.getElem?_eq_getElem hk2, Option.getD_some] at e1 e2
    rw [e1, e2, e3]
  have h3 := nodup_lt 50625 _ hk (by
    intro x hx
    obtain ⟨M, hM, rfl⟩ := List.mem_map.1 hx
    obtain ⟨v1, l1, _⟩ := hv M hM
    have r : ∀ k, k < n → im M k < 15 := fun k hk => Nat.lt_of_lt_of_le (v1.rng k (by omega)).1 h15
    have ra := r a ha; have rb := r b hb; have rc := r c hc; have rd := r d hd
    omega)
  rwa [List.length_map] at h3

end Go.Proofs.Ytbknpflbafjblaa

/- Plain laws that join full systems to the searches for renumberings. Conditions: none. -/
namespace Go.Proofs.Ytbknpflbafjblaa

def thN (xs : List Blk) (a b : Nat) : Nat := (third xs a b).toNat
theorem sts_of {n : Nat} {xs : List Blk} (hs : isSys n xs) (hf : fullB n xs = true) : Sts n (thN xs) := by
  refine ⟨fun a b ha hb hab => ?_, fun a b => by unfold thN; rw [third_symm], fun a b ha hb hab => ?_⟩
  · have := third_full hs hf (p := a) (q := b) (by omega) (by omega) hab
    unfold thN; omega
  · obtain ⟨j, h1, h2⟩ := full_cov hs hf (p := a) (q := b) (by omega) (by omega) hab
    obtain ⟨a1, a2, a3⟩ := inB_iff.1 h2
    have e := third_of hs h1 (p := a) (q := b) (by omega) a2 a3
    have hr := third_full hs hf (p := a) (q := b) (by omega) (by omega) hab
    have h4 := in_third (hs.2.2.1 j h1).1 h2
    have e2 : ((thN xs a b : Nat) : Int) = third xs a b := by unfold thN; omega
    have e3 := third_of hs h1 (p := a) (q := third xs a b) (Ne.symm hr.2.2.1) a2 (by rw [e]; exact h4.2.2)
    unfold thN at *
    rw [e2, e3]
    omega
/-- the code of full systems -/
noncomputable def fcode (v : Int) (xs : List Blk) : Int := if isSysB v xs = true then (if fullB v xs = true then 0 else 5) else 1

/-! A search that ends when enough is found. -/
def takeB (found : List (List Int)) (most : Nat) (Ls : List (List Int)) : List (List Int) := found ++ Ls.take (most - found.length)
theorem take_nil (found : List (List Int)) (most : Nat) : takeB found most [] = found := by simp [takeB]
theorem take_full {found : List (List Int)} {most : Nat} (h : most ≤ found.length) (Ls : List (List Int)) : takeB found most Ls = found := by
  unfold takeB
  have : most - found.length = 0 := by omega
  rw [this]; simp
theorem take_app (found : List (List Int)) (most : Nat) (A B : List (List Int)) : takeB found most (A ++ B) = takeB (takeB found most A) most B := by
  unfold takeB
  rw [List.take_append, List.append_assoc]
  congr 2
  rw [List.length_append, List.length_take]
  by_cases h : A.length ≤ most - found.length
  · rw [Nat.min_eq_right h]; congr 1; omega
  · have h1 : most - found.length - A.length = 0 := by omega
    have h2 : most - (found.length + min (most - found.length) A.length) = 0 := by omega
    rw [h1, h2]
theorem take_one {found : List (List Int)} {most : Nat} (h : found.length < most) (L : List Int) : takeB found most [L] = found ++ [L] := by
  unfold takeB
  rw [List.take_of_length_le (by simp; omega)]
theorem take_len {found : List (List Int)} {most : Nat} (h : found.length ≤ most) (Ls : List (List Int)) : (takeB found most Ls).length ≤ most := by
  unfold takeB; rw [List.length_append, List.length_take]; omega
/-! A search that calls each one until it says no. -/
def runE (cont : List (List Int) → Bool) : List (List Int) → List (List Int) → List (List Int) × Bool
  | [], C => (C, true)
  | L :: Ls, C => if cont (C ++ [L]) = true then runE cont Ls (C ++ [L]) else (C ++ [L], false)
theorem runE_app (cont : List (List Int) → Bool) : ∀ A B C, runE cont (A ++ B) C = if (runE cont A C).2 = true then runE cont B (runE cont A C).1 else runE cont A C := by
  intro A
  induction A with
  | nil => intro B C; simp [runE]
  | cons L A ih =>
    intro B C
    rw [List.cons_append, runE, runE]
    by_cases h : cont (C ++ [L]) = true
    · rw [if_pos h, if_pos h, ih]
    · rw [if_neg h, if_neg h]; simp
theorem runE_all {cont : List (List Int) → Bool} (h : ∀ C, cont C = true) : ∀ A C, runE cont A C = (C ++ A, true) := by
  intro A
  induction A with
  | nil => intro C; simp [runE]
  | cons L A ih => intro C; rw [runE, if_pos (h _), ih]; simp
/-- a search with a stop, seen from a loop -/
theorem runE_stop {cont : List (List Int) → Bool} {f : Nat → List (List Int)} {p : Nat → Bool} {C D : List (List Int)} {k : Nat} (e : runE cont (loopL f p 0 k) C = (D, false)) : ∀ n, k ≤ n → runE cont (loopL f p 0 n) C = (D, false) := by
  intro n
  induction n with
  | zero => intro h; obtain rfl : k = 0 := by omega
            exact e
  | succ n ih =>
    intro h
    by_cases hk : k = n + 1
    · subst hk; exact e
    · rw [loopL, runE_app, ih (by omega)]; simp
theorem take_stop {f : Nat → List (List Int)} {p : Nat → Bool} {F D : List (List Int)} {most k : Nat} (e : takeB F most (loopL f p 0 k) = D) (hD : most ≤ D.length) : ∀ n, k ≤ n → takeB F most (loopL f p 0 n) = D := by
  intro n
  induction n with
  | zero => intro h; obtain rfl : k = 0 := by omega
            exact e
  | succ n ih =>
    intro h
    by_cases hk : k = n + 1
    · subst hk; exact e
    · rw [loopL, take_app, ih (by omega), take_full hD]
/-- does a renumbering go around -/
def roundFrom (L : List Int) : Nat → Int → Int
  | 0, at_ => at_
  | k + 1, at_ => roundFrom L k (nthI L at_.toNat)

end Go.Proofs.Ytbknpflbafjblaa

/- Plain laws of automorphisms: they are a group, their orbits, and those that go around. Conditions: none. -/
namespace Go.Proofs.Ytbknpflbafjblaa

theorem loop_in {f : Nat → List (List Int)} {p : Nat → Bool} {a i : Nat} {l : List Int} (hp : p i = true) (hl : l ∈ f i) (ha : a ≤ i) : ∀ m, i < m → l ∈ loopL f p a m := by
  intro m
  induction m with
  | zero => intro h; omega
  | succ m ih =>
    intro h
    rw [loopL, List.mem_append]
    by_cases e : i = m
    · subst e; right; rw [if_pos ⟨ha, hp⟩]; exact hl
    · exact .inl (ih (by omega))
theorem list_ext {L M : List Int} (hl : L.length = M.length) (h : ∀ k, k < L.length → nthI L k = nthI M k) : L = M := by
  apply List.ext_getElem hl
  intro k h1 h2
  have := h k h1
  unfold nthI at this
  simpa [List.getD_eq_getElem?_getD, List.getElem?_eq_getElem h1, List.getElem?_eq_getElem h2] using this
theorem im_eq {L M : List Int} {k : Nat} (h : nthI L k = nthI M k) : im L k = im M k := by unfold im; rw [h]
theorem enum_has {n : Nat} {T1 T2 : Nat → Nat → Nat} {M : List Int} (hM : Val n T1 T2 M) (hl : M.length = n) : ∀ d L, L.length + d = n → (∀ k, k < L.length → nthI L k = nthI M k) → M ∈ enumL n (fitI T1 T2) d L := by
  intro d
  induction d with
  | zero =>
    intro L hd hk
    rw [enumL, List.mem_singleton]
    exact (list_ext (by omega) hk).symm
  | succ d ih =>
    intro L hd hk
    rw [enumL]
    have hr := hM.rng L.length (by omega)
    refine loop_in (i := im M L.length) (fitI_iff.2 ⟨usedB_not.2 fun k hk2 e => ?_, fun a ha hT => ?_⟩) (ih _ (by simp; omega) fun k hk2 => ?_) (Nat.zero_le _) n hr.1
    · rw [im_eq (hk k hk2)] at e
      have := hM.inj k L.length (by omega) (by omega) e
      omega
    · have := hM.hom a L.length (by omega) (by omega) (by omega) (by omega)
      rw [im_eq (hk a ha), im_eq (hk _ hT)]; exact this
    · rw [List.length_append, List.length_singleton] at hk2
      by_cases e : k = L.length
      · subst e; rw [nthI_last]; exact hr.2.symm
      · rw [nthI_app (by omega)]; exact hk k (by omega)
theorem lead_iff {n : Nat} {T1 T2 : Nat → Nat → Nat} (h1 : Sts n T1) (h2 : Sts n T2) {M : List Int} : M ∈ enumL n (fitI T1 T2) n [] ↔ Val n T1 T2 M ∧ M.length = n := by
  constructor
  · intro h
    obtain ⟨k1, k2, _⟩ := enum_val h1 h2 n [] (val_nil n T1 T2) (by simp) M h
    exact ⟨k1, k2⟩
  · rintro ⟨h, hl⟩
    exact enum_has h hl n [] (by simp) (fun k hk => by simp at hk)
/-- a list by its numbers -/
def mapL (n : Nat) (f : Nat → Nat) : List Int := (List.range n).map fun i => ((f i : Nat) : Int)
theorem mapL_len (n : Nat) (f : Nat → Nat) : (mapL n f).length = n := by simp [mapL]
theorem mapL_at {n : Nat} (f : Nat → Nat) {k : Nat} (h : k < n) : nthI (mapL n f) k = (f k : Int) := by simp [mapL, nthI, h]
theorem mapL_im {n : Nat} (f : Nat → Nat) {k : Nat} (h : k < n) : im (mapL n f) k = f k := by unfold im; rw [mapL_at f h]; rfl
theorem val_map {n : Nat} {T1 T2 : Nat → Nat → Nat} (h1 : Sts n T1) {f : Nat → Nat} (hr : ∀ k, k < n → f k < n) (hi : ∀ j k, j < n → k < n → f j = f k → j = k) (hh : ∀ a b, a < n → b < n → a ≠ b → T2 (f a) (f b) = f (T1 a b)) : Val n T1 T2 (mapL n f) := by
  refine ⟨by rw [mapL_len]; omega, fun k hk => ?_, fun j k hj hk e => ?_, fun a b ha hb hab hT => ?_⟩
  · rw [mapL_len] at hk; rw [mapL_im f hk, mapL_at f hk]; exact ⟨hr k hk, rfl⟩
  · rw [mapL_len] at hj hk; rw [mapL_im f hj, mapL_im f hk] at e; exact hi j k hj hk e
  · rw [mapL_len] at ha hb hT; rw [mapL_im f ha, mapL_im f hb, mapL_im f hT]; exact hh a b ha hb hab
theorem val_onto {n : Nat} {T1 T2 : Nat → Nat → Nat} {M : List Int} (hM : Val n T1 T2 M) (hl : M.length = n) {i : Nat} (hi : i < n) : ∃ k, k < n ∧ im M k = i := by
  refine Classical.byContradiction fun hno => ?_
  have hno' : ∀ k, k < n → im M k ≠ i := fun k hk e => hno ⟨k, hk, e⟩
  have hnd : (i :: (List.range n).map (im M)).Nodup := by
    rw [List.nodup_cons]
    refine ⟨fun hm => ?_, ?_⟩
    · obtain ⟨k, hk, e⟩ := List.mem_map.1 hm
      exact hno' k (List.mem_range.1 hk) e
    · rw [List.nodup_iff_pairwise_ne, List.pairwise_map]
      have hp := List.nodup_range (n := n)
      rw [List.nodup_iff_pairwise_ne] at hp
      refine List.Pairwise.imp_of_mem (fun {a b} ha hb hne e => hne ?_) hp
      exact hM.inj a b (by have := List.mem_range.1 ha; omega) (by have := List.mem_range.1 hb; omega) e
  have := nodup_lt n _ hnd (by
    intro x hx
    rcases List.mem_cons.1 hx with rfl | hx
    · exact hi
    · obtain ⟨k, hk, rfl⟩ := List.mem_map.1 hx
      exact (hM.rng k (by have := List.mem_range.1 hk; omega)).1)
  simp at this; omega
noncomputable def invF (M : List Int) (n i : Nat) : Nat := open Classical in if h : ∃ k, k < n ∧ im M k = i then Classical.choose h else 0
theorem invF_is {n : Nat} {T1 T2 : Nat → Nat → Nat} {M : List Int} (hM : Val n T1 T2 M) (hl : M.length = n) {i : Nat} (hi : i < n) : invF M n i < n ∧ im M (invF M n i) = i := by
  have h := val_onto hM hl hi
  unfold invF
  rw [dif_pos h]
  exact Classical.choose_spec h
/-- automorphisms -/
structure Aut (n : Nat) (T : Nat → Nat → Nat) (M : List Int) : Prop where
  v : Val n T T M
  l : M.length = n
theorem aut_id {n : Nat} {T : Nat → Nat → Nat} (h : Sts n T) : Aut n T (mapL n fun i => i) :=
  ⟨val_map h (fun _ hk => hk) (fun _ _ _ _ e => e) (fun _ _ _ _ _ => rfl), mapL_len _ _⟩
theorem aut_comp {n : Nat} {T : Nat → Nat → Nat} (h : Sts n T) {M K : List Int} (hM : Aut n T M) (hK : Aut n T K) : Aut n T (mapL n fun i => im M (im K i)) := by
  have hml := hM.l; have hkl := hK.l
  refine ⟨val_map h (fun k hk => ?_) (fun j k hj hk e => ?_) (fun a b ha hb hab => ?_), mapL_len _ _⟩
  · exact (hM.v.rng _ (by rw [hml]; exact (hK.v.rng k (by omega)).1)).1
  · have r1 := (hK.v.rng j (by omega)).1; have r2 := (hK.v.rng k (by omega)).1
    exact hK.v.inj j k (by omega) (by omega) (hM.v.inj _ _ (by omega) (by omega) e)
  · have r1 := (hK.v.rng a (by omega)).1; have r2 := (hK.v.rng b (by omega)).1
    have hr := (h.rng a b ha hb hab).1
    have hne : im K a ≠ im K b := fun e => hab (hK.v.inj a b (by omega) (by omega) e)
    have e1 := hK.v.hom a b (by omega) (by omega) hab (by omega)
    have e2 := hM.v.hom (im K a) (im K b) (by omega) (by omega) hne (by have := (h.rng _ _ r1 r2 hne).1; omega)
    show T (im M (im K a)) (im M (im K b)) = im M (im K (T a b))
    rw [e2, e1]
theorem aut_inv {n : Nat} {T : Nat → Nat → Nat} (h : Sts n T) {M : List Int} (hM : Aut n T M) : Aut n T (mapL n (invF M n)) := by
  have hml := hM.l
  refine ⟨val_map h (fun k hk => (invF_is hM.v hM.l hk).1) (fun j k hj hk e => ?_) (fun a b ha hb hab => ?_), mapL_len _ _⟩
  · rw [← (invF_is hM.v hM.l hj).2, ← (invF_is hM.v hM.l hk).2, e]
  · obtain ⟨r1, e1⟩ := invF_is hM.v hM.l ha
    obtain ⟨r2, e2⟩ := invF_is hM.v hM.l hb
    have hne : invF M n a ≠ invF M n b := fun e => hab (by rw [← e1, ← e2, e])
    have hr := (h.rng _ _ r1 r2 hne).1
    have hr2 := (h.rng a b ha hb hab).1
    obtain ⟨r3, e3⟩ := invF_is hM.v hM.l hr2
    have e4 := hM.v.hom _ _ (by omega) (by omega) hne (by omega)
    rw [e1, e2] at e4
    exact hM.v.inj _ _ (by omega) (by omega) (by rw [e3, e4])
/-! Orbits of a relation. -/
/-- the numbers in relation to one -/
def relL (R : Nat → Nat → Bool) (n p : Nat) : List Int := ((List.range n).filter (R p)).map fun (q : Nat) => (q : Int)
/-- is one in relation to a lesser one -/
noncomputable def lessB (R : Nat → Nat → Bool) (p : Nat) : Bool := open Classical in decide (∃ q, q < p ∧ R p q = true)
noncomputable def orbL (R : Nat → Nat → Bool) (n : Nat) : Nat → List (List Int)
  | 0 => []
  | k + 1 => orbL R n k ++ (if lessB R k = true then [] else [relL R n k])
structure Eqv (R : Nat → Nat → Bool) (n : Nat) : Prop where
  rfl_ : ∀ p, p < n → R p p = true
  sym : ∀ p q, p < n → q < n → R p q = true → R q p = true
  tr : ∀ p q r, p < n → q < n → r < n → R p q = true → R q r = true → R p r = true
/-- what has been met before the k-th number -/
noncomputable def metB (R : Nat → Nat → Bool) (k q : Nat) : Bool := open Classical in decide (∃ p, p < k ∧ R p q = true)
theorem metB_iff {R : Nat → Nat → Bool} {k q : Nat} : metB R k q = true ↔ ∃ p, p < k ∧ R p q = true := by unfold metB; simp
theorem lessB_iff {R : Nat → Nat → Bool} {p : Nat} : lessB R p = true ↔ ∃ q, q < p ∧ R p q = true := by unfold lessB; simp
theorem met_less {R : Nat → Nat → Bool} {n k : Nat} (h : Eqv R n) (hk : k < n) : metB R k k = lessB R k := by
  rw [Bool.eq_iff_iff, metB_iff, lessB_iff]
  constructor
  · rintro ⟨p, hp, hR⟩; exact ⟨p, hp, h.sym p k (by omega) hk hR⟩
  · rintro ⟨p, hp, hR⟩; exact ⟨p, hp, h.sym k p hk (by omega) hR⟩
theorem met_step {R : Nat → Nat → Bool} {n k q : Nat} (h : Eqv R n) (hk : k < n) (hq : q < n) : metB R (k + 1) q = (metB R k q || (!lessB R k && R k q)) := by
  rw [Bool.eq_iff_iff, Bool.or_eq_true, metB_iff, metB_iff, Bool.and_eq_true, Bool.not_eq_true', ← met_less h hk]
  constructor
  · rintro ⟨p, hp, hR⟩
    by_cases e : p = k
    · subst e
      cases hm : metB R p p
      · exact .inr ⟨rfl, hR⟩
      · obtain ⟨p', hp', hR'⟩ := metB_iff.1 hm
        exact .inl ⟨p', hp', h.tr p' p q (by omega) hk hq hR' hR⟩
    · exact .inl ⟨p, by omega, hR⟩
  · rintro (⟨p, hp, hR⟩ | ⟨_, hR⟩)
    · exact ⟨p, by omega, hR⟩
    · exact ⟨k, by omega, hR⟩
theorem relL_len (R : Nat → Nat → Bool) (n p : Nat) : (relL R n p).length ≤ n := by
  unfold relL
  rw [List.length_map]
  have := List.length_filter_le (R p) (List.range n)
  simpa using this
theorem relL_succ (R : Nat → Nat → Bool) (n p : Nat) : relL R (n + 1) p = relL R n p ++ (if R p n = true then [(n : Int)] else []) := by
  unfold relL
  rw [List.range_succ, List.filter_append, List.map_append]
  congr 1
  by_cases h : R p n = true
  · rw [if_pos h, List.filter_cons_of_pos h]; rfl
  · rw [if_neg h, List.filter_cons_of_neg h]; rfl
theorem orbL_len (R : Nat → Nat → Bool) (n k : Nat) : (orbL R n k).length ≤ k := by
  induction k with
  | zero => simp [orbL]
  | succ k ih => rw [orbL, List.length_append]; split <;> simp <;> omega
theorem orbL_mem {R : Nat → Nat → Bool} {n k : Nat} {l : List Int} (h : l ∈ orbL R n k) : ∃ p, p < k ∧ l = relL R n p := by
  induction k with
  | zero => simp [orbL] at h
  | succ k ih =>
    rw [orbL, List.mem_append] at h
    rcases h with h | h
    · obtain ⟨p, hp, e⟩ := ih h; exact ⟨p, by omega, e⟩
    · split at h
      · simp at h
      · exact ⟨k, by omega, by simpa using h⟩
/-! Renumberings that go around. -/
theorem round_succ (L : List Int) : ∀ k a, roundFrom L (k + 1) a = nthI L (roundFrom L k a).toNat := by
  intro k
  induction k with
  | zero => intro a; rfl
  | succ k ih => intro a; rw [roundFrom, ih]; rfl
def itN (L : List Int) (k : Nat) : Nat := (roundFrom L k 0).toNat
theorem itN_zero (L : List Int) : itN L 0 = 0 := rfl
theorem itN_succ (L : List Int) (k : Nat) : itN L (k + 1) = im L (itN L k) := by unfold itN; rw [round_succ]; rfl
noncomputable def goB (L : List Int) : Bool := open Classical in decide ((∀ j, 1 ≤ j → j < L.length → itN L j ≠ 0) ∧ itN L L.length = 0)
theorem goB_iff {L : List Int} : goB L = true ↔ (∀ j, 1 ≤ j → j < L.length → itN L j ≠ 0) ∧ itN L L.length = 0 := by unfold goB; simp
theorem itN_lt {n : Nat} {T1 T2 : Nat → Nat → Nat} {L : List Int} (h : Val n T1 T2 L) (hl : L.length = n) (hn : 0 < n) : ∀ k, itN L k < n := by
  intro k
  induction k with
  | zero => exact hn
  | succ k ih => rw [itN_succ]; exact (h.rng _ (by omega)).1
theorem itN_back {n : Nat} {T1 T2 : Nat → Nat → Nat} {L : List Int} (h : Val n T1 T2 L) (hl : L.length = n) (hn : 0 < n) : ∀ i d, itN L i = itN L (i + d) → itN L d = 0 := by
  intro i
  induction i with
  | zero => intro d e; rw [Nat.zero_add] at e; rw [← e]; rfl
  | succ i ih =>
    intro d e
    rw [Nat.add_right_comm, itN_succ, itN_succ] at e
    have h1 := itN_lt h hl hn i; have h2 := itN_lt h hl hn (i + d)
    exact ih d (h.inj _ _ (by omega) (by omega) e)
theorem around_lt {n : Nat} {T1 T2 : Nat → Nat → Nat} {L : List Int} (h : Val n T1 T2 L) (hl : L.length = n) (hn : 0 < n) {m : Nat} (hm : ∀ j, 1 ≤ j → j ≤ m → itN L j ≠ 0) : m < n := by
  have hnd : ((List.range (m + 1)).map (itN L)).Nodup := by
    rw [List.nodup_iff_pairwise_ne, List.pairwise_map]
    have hp : (List.range (m + 1)).Pairwise (· < ·) := List.pairwise_lt_range
    refine List.Pairwise.imp_of_mem (fun {a b} ha hb hlt e => ?_) hp
    have h1 := List.mem_range.1 ha; have h2 := List.mem_range.1 hb
    obtain ⟨d, rfl⟩ : ∃ d, b = a + d := ⟨b - a, by omega⟩
    exact hm d (by omega) (by omega) (itN_back h hl hn a d e)
  have := nodup_lt n _ hnd (by
    intro x hx
    obtain ⟨k, _, rfl⟩ := List.mem_map.1 hx
    exact itN_lt h hl hn k)
  simp at this; omega
theorem around_is {L : List Int} {m : Nat} (hm : ∀ j, 1 ≤ j → j < m → itN L j ≠ 0) (h1 : 1 ≤ m) (h0 : itN L m = 0) (hl : 1 ≤ L.length) : decide ((m : Int) = (L.length : Int)) = goB L := by
  rw [Bool.eq_iff_iff, decide_eq_true_eq, goB_iff]
  constructor
  · intro e
    have e' : m = L.length := by omega
    subst e'; exact ⟨hm, h0⟩
  · rintro ⟨k1, k2⟩
    have h2 : ¬ m < L.length := fun h => k1 m h1 h h0
    have h3 : ¬ L.length < m := fun h => hm _ hl h k2
    omega

end Go.Proofs.Ytbknpflbafjblaa

/- Words for the reference's search for renumberings in memory; conditions: none. -/
namespace Go.Proofs.Ytbknpflbafjblaa
open Go.RowKit

section
variable {P : Program} (w : World)
/-- append of any number of elements to a row of the call's own, at a step of a region that draws. -/
theorem step_append_at {ops : Array Oper} {o : Oper} {a : Act} {K : Act → World → Prop} {Q : Exit → Act → World → Prop} {E : Prop} (hgd : o.guard = none) (s x : Operand) (t : TypeId)
    (ho : o.op = .call { callee := .builtin .append, args := #[s, x], argTypes := #[t, t] })
    (base : Nat) (e : TypeId) (i : TypeInfo) (z : Value) (size bytes : Nat) (ht : P.underlying t = some (.slice e)) (hi : P.info? e = some i) (hz : i.zero = some z)
    (hsize : i.size = size) (hby : i.bytes = bytes) (hzs : z.cells.size = size) (hsz : 0 < size)
    (v : Value) (n : Nat) (xs : List Value) (hs : a.eval s = v) (hown : w.ownsRow base e size v n xs)
    (ad : Addr) (m c : Nat) (news : List Value) (hx : a.eval x = .slice (some ad) m c) (hl : news.length = m * size) (hnews : ∀ j u, news[j]? = some u → w.cell? (ad.add j) = some u) (h1 : ∀ u ∈ news, u.oneCell' = true)
    (h63 : n + m ≤ maxLen) (hbytes : (n + m) * bytes ≤ 140737488355328) (hbase : base ≤ w.heap.size)
    (h : ∀ v' w', w'.ownsRow base e size v' (n + m) (xs ++ news) → w.grownBy w' v.ownBlock → (v'.ownBlock = v.ownBlock ∨ v'.ownBlock = some w.heap.size) → K (a.put o.dst v') w') :
    if Region.wanted o (yielded ops a.tmps) = true then Oper.wp P o a w K Q else E := by
  have hw : Region.wanted o (yielded ops a.tmps) = true := by simp [Region.wanted, hgd]
  rw [if_pos hw]
  obtain ⟨v', w', hr, h2, h3, _, h5⟩ := run_append_own_at (P := P) w base t o.type e i z size bytes ht hi hz hsize hby hzs hsz v n xs hown ad m c news hl hnews h1 h63 hbytes hbase
  unfold Oper.wp execOp
  simp only [ho, resolve, invoke, builtin, Sem.run_bind, Sem.run_pure, Result.andThen_ok, List.map_toArray, List.map_cons, List.map_nil, hs, hx, hr]
  exact h v' w' h2 h3 h5
end

/-- u is a row of its own (above b1) of the headers of lists that are rows of their own (above b2) -/
def LLp (w : World) (b1 b2 : Nat) (u : Value) (xss : List (List Int)) : Prop :=
  ∃ vs, w.ownsRow b1 42 1 u xss.length vs ∧ ∀ k, k < xss.length → ∃ h, vs[k]? = some h ∧ Ro w b2 h (nthLL xss k) ∧ ∀ b, h.ownBlock = some b → u.ownBlock ≠ some b
theorem LLp.below {w w' : World} {b1 b2 : Nat} {u : Value} {xss : List (List Int)} (h : LLp w b1 b2 u xss) (hb : Below w.heap.size w w') : LLp w' b1 b2 u xss := by
  obtain ⟨vs, ho, hi⟩ := h
  refine ⟨vs, own_below ho hb, fun k hk => ?_⟩
  obtain ⟨r, h1, h2, h3⟩ := hi k hk
  exact ⟨r, h1, h2.below hb, h3⟩
theorem LLp.lt {w : World} {b1 b2 : Nat} {u : Value} {xss : List (List Int)} (h : LLp w b1 b2 u xss) : ∀ b, u.ownBlock = some b → b1 ≤ b ∧ b < w.heap.size := by
  obtain ⟨vs, ho, _⟩ := h
  intro b hb
  exact ho.lt b hb
theorem LLp.llq {w : World} {b1 b2 : Nat} {u : Value} {xss : List (List Int)} (h : LLp w b1 b2 u xss) (hb : b1 ≤ b2) : LLq w b1 u xss := by
  obtain ⟨vs, ho, hi⟩ := h
  refine ⟨vs, ho, fun k hk => ?_⟩
  obtain ⟨r, h1, h2, h3⟩ := hi k hk
  exact ⟨r, h1, own_base h2 hb, h3⟩
theorem LLp.slice {w : World} {b1 b2 : Nat} {u : Value} {xss : List (List Int)} (h : LLp w b1 b2 u xss) : ∃ A c, u = .slice A xss.length c := by
  obtain ⟨vs, ho, _⟩ := h
  exact own_slice ho
theorem LLp.snoc {w w1 w2 : World} {b1 b2 : Nat} {u v2 r : Value} {xss : List (List Int)} {vs : List Value} {xs : List Int}
    (hi : ∀ k, k < xss.length → ∃ h, vs[k]? = some h ∧ Ro w b2 h (nthLL xss k) ∧ ∀ b, h.ownBlock = some b → u.ownBlock ≠ some b) (hv : vs.length = xss.length) (hB : Ro w b2 r xs) (hf : ∀ b, r.ownBlock = some b → u.ownBlock ≠ some b)
    (hb : Below w.heap.size w w1) (hg : w1.grownBy w2 u.ownBlock) (ho : w2.ownsRow b1 42 1 v2 (xss.length + 1) (vs ++ [r])) (hat : v2.ownBlock = u.ownBlock ∨ v2.ownBlock = some w1.heap.size) :
    LLp w2 b1 b2 v2 (xss ++ [xs]) := by
  have key : ∀ {h : Value} {ys : List Int}, Ro w b2 h ys → (∀ b, h.ownBlock = some b → u.ownBlock ≠ some b) → Ro w2 b2 h ys ∧ ∀ b, h.ownBlock = some b → v2.ownBlock ≠ some b := by
    intro h ys h1 h2
    refine ⟨(h1.below hb).grown hg h2, fun b e => ?_⟩
    rcases hat with h' | h'
    · rw [h']; exact h2 b e
    · rw [h']; intro e2
      simp only [Option.some.injEq] at e2
      have := (h1.lt b e).2; have := hb.size; omega
  refine ⟨vs ++ [r], by rw [List.length_append]; exact ho, fun k hk => ?_⟩
  rw [List.length_append, List.length_singleton] at hk
  by_cases hkl : k < xss.length
  · obtain ⟨h, h1, h2, h3⟩ := hi k hkl
    have e : nthLL (xss ++ [xs]) k = nthLL xss k := by simp [nthLL, List.getElem?_append_left hkl]
    rw [e]
    exact ⟨h, by rw [List.getElem?_append_left (by omega)]; exact h1, key h2 h3⟩
  · obtain rfl : k = xss.length := by omega
    have e : nthLL (xss ++ [xs]) xss.length = xs := by simp [nthLL]
    rw [e]
    exact ⟨r, by rw [← hv]; simp, key hB hf⟩
theorem LLp.grown {w w' : World} {b1 b2 s : Nat} {u : Value} {xss : List (List Int)} (h : LLp w b1 b2 u xss) (hg : w.grownBy w' (some s)) (hs : s < b2) (hu : u.ownBlock ≠ some s) : LLp w' b1 b2 u xss := by
  obtain ⟨vs, ho, hi⟩ := h
  refine ⟨vs, World.ownsRow.kept ho hg (.inr hu), fun k hk => ?_⟩
  obtain ⟨r, h1, h2, h3⟩ := hi k hk
  refine ⟨r, h1, h2.grown hg fun b e e2 => ?_, h3⟩
  simp only [Option.some.injEq] at e2
  have := (h2.lt b e).1; omega

/-- the cells of the reference's search -/
def gVals (g1 g2 n most : Nat) (u : Value) (ar : Bool) : Array Value := #[.slice (some ⟨g1, 0, none⟩) 256 256, .slice (some ⟨g2, 0, none⟩) 256 256, .int .i64 n, .int .i64 most, u, .bool ar]
/-- but for the block s and the row of v all is as it was; u is that row, or a new one -/
structure Gs (w w' : World) (s : Nat) (v u : Value) : Prop where
  os : w'.os = w.os
  tape : w'.tape = w.tape
  output : w'.output = w.output
  size : w.heap.size ≤ w'.heap.size
  block : ∀ k, k < w.heap.size → k ≠ s → v.ownBlock ≠ some k → w'.heap[k]? = w.heap[k]?
  at_ : u.ownBlock = v.ownBlock ∨ ∃ b, u.ownBlock = some b ∧ w.heap.size ≤ b
theorem Gs.refl (w : World) (s : Nat) (v : Value) : Gs w w s v v := ⟨rfl, rfl, rfl, Nat.le_refl _, fun _ _ _ _ => rfl, .inl rfl⟩
theorem Gs.below {w a b : World} {s : Nat} {v u : Value} (h : Gs w a s v u) (hb : Below a.heap.size a b) : Gs w b s v u :=
  ⟨hb.os.trans h.os, hb.tape.trans h.tape, hb.output.trans h.output, Nat.le_trans h.size hb.size, fun k hk h1 h2 => (hb.block k (Nat.lt_of_lt_of_le hk h.size)).trans (h.block k hk h1 h2), h.at_⟩
theorem Gs.join {w a b : World} {s : Nat} {v u x : Value} (h : Gs w a s v u) (k : Gs a b s u x) : Gs w b s v x := by
  refine ⟨k.os.trans h.os, k.tape.trans h.tape, k.output.trans h.output, Nat.le_trans h.size k.size, fun i hi h1 h2 => ?_, ?_⟩
  · rw [← h.block i hi h1 h2]
    refine k.block i (Nat.lt_of_lt_of_le hi h.size) h1 fun e => ?_
    rcases h.at_ with e2 | ⟨q, e2, hq⟩
    · rw [e2] at e; exact h2 e
    · rw [e2] at e; simp only [Option.some.injEq] at e; omega
  · rcases k.at_ with e | ⟨q, e, hq⟩
    · rw [e]; exact h.at_
    · exact .inr ⟨q, e, Nat.le_trans h.size hq⟩
theorem Gs.ne {w a : World} {s : Nat} {v u : Value} (h : Gs w a s v u) {k : Nat} (hk : k < w.heap.size) (hv : v.ownBlock ≠ some k) : u.ownBlock ≠ some k := by
  rcases h.at_ with e | ⟨q, e, hq⟩
  · rw [e]; exact hv
  · rw [e]; simp only [ne_eq, Option.some.injEq]; omega
theorem Gs.out {w a : World} {s B : Nat} {v u : Value} (h : Gs w a s v u) (hB : B ≤ w.heap.size) (hs : B ≤ s) (hv : ∀ b, v.ownBlock = some b → B ≤ b) : Below B w a :=
  ⟨h.os, h.tape, h.output, h.size, fun k hk => h.block k (by omega) (by omega) (fun e => by have := hv k e; omega)⟩
theorem Gs.row {w a : World} {s g : Nat} {v u : Value} {t : TypeId} {cur : Array Value} (h : Gs w a s v u) (hR : Row w g t cur) (h1 : g ≠ s) (h2 : v.ownBlock ≠ some g) : Row a g t cur := (h.block g hR.lt h1 h2).trans hR
theorem Gs.grown {w a b : World} {s : Nat} {v u x : Value} (h : Gs w a s v u) (hg : a.grownBy b u.ownBlock) (hx : x.ownBlock = u.ownBlock ∨ ∃ q, x.ownBlock = some q ∧ a.heap.size ≤ q) : Gs w b s v x :=
  h.join ⟨hg.os, hg.tape, hg.output, hg.size, fun k hk _ h2 => hg.block k hk (fun e => h2 e.symm), hx⟩
theorem Gs.set {w a : World} {s : Nat} {v u : Value} (h : Gs w a s v u) (i : Nat) (x : Value) : Gs w (a.setCell ⟨s, i, none⟩ x) s v u := by
  refine h.join ⟨rfl, rfl, rfl, by simp [World.setCell], fun k hk h1 _ => Below.heap_setCell _ _ _ _ h1, .inl rfl⟩
theorem Gs.ro {w a : World} {s bl : Nat} {v u un : Value} {L : List Int} (h : Gs w a s v u) (hR : Ro w bl un L) (h1 : un.ownBlock ≠ some s) (h2 : ∀ b, un.ownBlock = some b → v.ownBlock ≠ some b) : Ro a bl un L := by
  refine ⟨hR.1, ?_⟩
  rcases hR.2 with h' | ⟨g, cap, cur, hv, hg, hrow, r⟩
  · exact .inl h'
  · have e : un.ownBlock = some g := by rw [hv]; rfl
    exact .inr ⟨g, cap, cur, hv, hg, h.row hrow (fun e2 => h1 (by rw [e, e2])) (h2 g e), r⟩
/-! Searches whose finds are sifted. -/
theorem loop_filter {f : Nat → List (List Int)} {p : Nat → Bool} {a : Nat} (q : List Int → Bool) : ∀ m, (loopL f p a m).filter q = loopL (fun i => (f i).filter q) p a m := by
  intro m
  induction m with
  | zero => rfl
  | succ m ih => rw [loopL, loopL, List.filter_append, ih]; congr 1; split <;> simp

end Go.Proofs.Ytbknpflbafjblaa

/- Lists of lists whose lists lie in different blocks; conditions: none. -/
namespace Go.Proofs.Ytbknpflbafjblaa
open Go.RowKit
set_option linter.unusedSimpArgs false
set_option linter.unusedVariables false

theorem own_typed {w : World} {base size n sb : Nat} {t ts : TypeId} {u : Value} {xs : List Value} (h : w.ownsRow base t size u n xs) (hs : ∃ cur, Row w sb ts cur) (ht : t ≠ ts) : u.ownBlock ≠ some sb := by
  intro e
  obtain ⟨cur, hc⟩ := hs
  rcases h.2 with ⟨rfl, _⟩ | ⟨g, cap, cur2, rfl, _, hg, _⟩
  · simp [Value.ownBlock] at e
  · simp [Value.ownBlock] at e
    subst e
    unfold Row at hc
    rw [hc] at hg
    simp only [Option.some.injEq, Obj.cells.injEq] at hg
    exact absurd hg.2.1.symm ht
/-- u is a row of lists, all in different blocks -/
def LLd (w : World) (base : Nat) (u : Value) (xss : List (List Int)) : Prop :=
  ∃ hs : Nat → Value, w.ownsRow base 42 1 u xss.length ((List.range xss.length).map hs) ∧ (∀ k, k < xss.length → Ro w base (hs k) (nthLL xss k) ∧ ∀ b, (hs k).ownBlock = some b → u.ownBlock ≠ some b) ∧ ∀ j k, j < xss.length → k < xss.length → j ≠ k → ∀ b, (hs j).ownBlock = some b → (hs k).ownBlock ≠ some b
theorem LLd.llq {w : World} {base : Nat} {u : Value} {xss : List (List Int)} (h : LLd w base u xss) : LLq w base u xss := by
  obtain ⟨hs, ho, hi, _⟩ := h
  exact ⟨_, ho, fun k hk => ⟨hs k, by simp [hk], (hi k hk).1, (hi k hk).2⟩⟩
theorem LLd.below {w w' : World} {base : Nat} {u : Value} {xss : List (List Int)} (h : LLd w base u xss) (hb : Below w.heap.size w w') : LLd w' base u xss := by
  obtain ⟨hs, ho, hi, hd⟩ := h
  exact ⟨hs, own_below ho hb, fun k hk => ⟨(hi k hk).1.below hb, (hi k hk).2⟩, hd⟩
theorem LLd.slice {w : World} {base : Nat} {u : Value} {xss : List (List Int)} (h : LLd w base u xss) : ∃ A c, u = .slice A xss.length c := h.llq.slice
theorem LLd.base {w : World} {base b' : Nat} {u : Value} {xss : List (List Int)} (h : LLd w base u xss) (hb : b' ≤ base) : LLd w b' u xss := by
  obtain ⟨hs, ho, hi, hd⟩ := h
  exact ⟨hs, own_base ho hb, fun k hk => ⟨own_base (hi k hk).1 hb, (hi k hk).2⟩, hd⟩
theorem LLd.nil (w : World) (base : Nat) : LLd w base (.slice none 0 0) [] := ⟨fun _ => .slice none 0 0, World.ownsRow_nil _ _ _ _, fun k hk => by simp at hk, fun j k hj => by simp at hj⟩
theorem LLd.own_lt {w : World} {base : Nat} {u : Value} {xss : List (List Int)} (h : LLd w base u xss) : ∀ b, u.ownBlock = some b → base ≤ b ∧ b < w.heap.size := h.llq.own_lt
theorem LLd.kept {w w' : World} {base s : Nat} {ts : TypeId} {u : Value} {xss : List (List Int)} (h : LLd w base u xss) (hg : w.grownBy w' (some s)) (hs : ∃ cur, Row w s ts cur) (h1 : (42 : TypeId) ≠ ts) (h2 : (2 : TypeId) ≠ ts) : LLd w' base u xss := by
  obtain ⟨hs', ho, hi, hd⟩ := h
  exact ⟨hs', World.ownsRow.kept ho hg (.inr (own_typed ho hs h1)), fun k hk => ⟨World.ownsRow.kept (hi k hk).1 hg (.inr (own_typed (hi k hk).1 hs h2)), (hi k hk).2⟩, hd⟩
/-- the row's headers -/
theorem LLd.vs {w : World} {base : Nat} {u : Value} {xss : List (List Int)} (h : LLd w base u xss) : ∃ vs, w.ownsRow base 42 1 u xss.length vs ∧ vs.length = xss.length ∧ ∀ (w1 w2 : World) (r v2 : Value) (xs : List Int), Below w.heap.size w w1 → Ro w1 base r xs → (∀ b, r.ownBlock = some b → w.heap.size ≤ b) →
    ∀ w1', Below w1.heap.size w1 w1' → w1'.grownBy w2 u.ownBlock → w2.ownsRow base 42 1 v2 (xss.length + 1) (vs ++ [r]) → (v2.ownBlock = u.ownBlock ∨ v2.ownBlock = some w1'.heap.size) → LLd w2 base v2 (xss ++ [xs]) := by
  obtain ⟨hs, ho, hi, hd⟩ := h
  refine ⟨_, ho, by simp, fun w1 w2 r v2 xs hb hr hfr w1' hb' hg hown hat => ?_⟩
  have old : ∀ k, k < xss.length → ∀ b, (hs k).ownBlock = some b → b < w.heap.size := fun k hk b e => ((hi k hk).1.lt b e).2
  have oldu : ∀ b, u.ownBlock = some b → b < w.heap.size := fun b e => (ho.lt b e).2
  have hsz := hb.size; have hsz' := hb'.size
  have hrlt : ∀ b, r.ownBlock = some b → b < w1.heap.size := fun b e => (hr.lt b e).2
  refine ⟨updA hs xss.length r, ?_, fun k hk => ?_, fun j k hj hk hjk b e => ?_⟩
  · rw [List.length_append, List.length_singleton, List.range_succ, List.map_append]
    have e1 : (List.range xss.length).map (updA hs xss.length r) = (List.range xss.length).map hs := List.map_congr_left fun i hi2 => updA_ne hs r (by have := List.mem_range.1 hi2; omega)
    rw [e1]
    simpa [updA_same] using hown
  · rw [List.length_append, List.length_singleton] at hk
    have hne : ∀ {x : Value}, (∀ b, x.ownBlock = some b → b < w1'.heap.size) → (∀ b, x.ownBlock = some b → u.ownBlock ≠ some b) → ∀ b, x.ownBlock = some b → v2.ownBlock ≠ some b := by
      intro x hx1 hx2 b e
      rcases hat with h | h
      · rw [h]; exact hx2 b e
      · rw [h]; intro e2; simp only [Option.some.injEq] at e2; have := hx1 b e; omega
    by_cases ek : k = xss.length
    · subst ek
      rw [updA_same]
      have e2 : nthLL (xss ++ [xs]) xss.length = xs := by simp [nthLL]
      rw [e2]
      have hru : ∀ b, r.ownBlock = some b → u.ownBlock ≠ some b := fun b e e3 => by have := hfr b e; have := oldu b e3; omega
      exact ⟨(hr.below hb').grown hg (fun b e e3 => hru b e e3), hne (fun b e => by have := hrlt b e; omega) hru⟩
    · have hk2 : k < xss.length := by omega
      rw [updA_ne _ _ ek]
      have e2 : nthLL (xss ++ [xs]) k = nthLL xss k := by simp [nthLL, List.getElem?_append_left hk2]
      rw [e2]
      exact ⟨(((hi k hk2).1.below hb).below hb').grown hg (fun b e e3 => (hi k hk2).2 b e e3), hne (fun b e => by have := old k hk2 b e; omega) (hi k hk2).2⟩
  · rw [List.length_append, List.length_singleton] at hj hk
    by_cases ej : j = xss.length
    · subst ej
      rw [updA_same] at e
      rw [updA_ne _ _ (Ne.symm hjk)]
      intro e2; have := hfr b e; have := old k (by omega) b e2; omega
    · rw [updA_ne _ _ ej] at e
      by_cases ek : k = xss.length
      · subst ek
        rw [updA_same]
        intro e2; have := hfr b e2; have := old j (by omega) b e; omega
      · rw [updA_ne _ _ ek]; exact hd j k (by omega) (by omega) hjk b e

/-- a list of a list of lists, to be read -/
theorem LLq.rd {w : World} {base : Nat} {A : Option Addr} {n c : Nat} {xss : List (List Int)} (h : LLq w base (.slice A n c) xss) {k : Nat} (hk : k < xss.length) :
    ∃ g B d, A = some ⟨g, 0, none⟩ ∧ g < w.heap.size ∧ w.cell? ⟨g, k, none⟩ = some (.slice B (nthLL xss k).length d) ∧ Il w B (nthLL xss k) := by
  obtain ⟨g, r, hA, hg, hc, hR⟩ := h.at_ hk
  obtain ⟨B, d, rfl, hI, _⟩ := hR.il
  exact ⟨g, B, d, hA, hg, hc, hI⟩

end Go.Proofs.Ytbknpflbafjblaa

/- Plain laws of completions: the search by the first pair that is left. Conditions: stated in each. -/
namespace Go.Proofs.Ytbknpflbafjblaa
set_option linter.unusedSimpArgs false
set_option linter.unusedVariables false

/-- the pairs of a block, as digits -/
def prM (a b p : Nat) : Nat := 2 ^ (a * 16 + b) ||| 2 ^ (a * 16 + p) ||| 2 ^ (b * 16 + p)
theorem prM_bit (a b p k : Nat) : (prM a b p).testBit k = (decide (k = a * 16 + b) || decide (k = a * 16 + p) || decide (k = b * 16 + p)) := by
  unfold prM
  rw [Nat.testBit_or, Nat.testBit_or, Nat.testBit_two_pow, Nat.testBit_two_pow, Nat.testBit_two_pow]
  simp only [eq_comm]
/-- the pair of a number is left -/
def frK (v u k : Nat) : Bool := decide (k / 16 < k % 16) && decide (k % 16 < v) && !u.testBit k
def nxtF (v u : Nat) : Nat → Nat → Nat
  | 0, k => k
  | f + 1, k => if frK v u k = true then k else nxtF v u f (k + 1)
/-- the first pair that is left, or 256 -/
def nxt (v u : Nat) : Nat := nxtF v u 256 0
theorem nxtF_spec (v u : Nat) : ∀ f k, k ≤ nxtF v u f k ∧ nxtF v u f k ≤ k + f ∧ (nxtF v u f k < k + f → frK v u (nxtF v u f k) = true) ∧ ∀ j, k ≤ j → j < nxtF v u f k → frK v u j = false := by
  intro f
  induction f with
  | zero => intro k; exact ⟨Nat.le_refl _, Nat.le_refl _, fun h => by rw [nxtF] at h; omega, fun j h1 h2 => by rw [nxtF] at h2; omega⟩
  | succ f ih =>
    intro k
    rw [nxtF]
    by_cases h : frK v u k = true
    · rw [if_pos h]; exact ⟨by omega, by omega, fun _ => h, fun j h1 h2 => by omega⟩
    · rw [if_neg h]
      obtain ⟨h1, h2, h3, h4⟩ := ih (k + 1)
      refine ⟨by omega, by omega, fun hh => h3 (by omega), fun j hj1 hj2 => ?_⟩
      by_cases e : j = k
      · subst e; simpa using h
      · exact h4 j (by omega) hj2
theorem nxt_le (v u : Nat) : nxt v u ≤ 256 := by have := (nxtF_spec v u 256 0).2.1; unfold nxt; omega
theorem nxt_fr {v u : Nat} (h : nxt v u < 256) : frK v u (nxt v u) = true := (nxtF_spec v u 256 0).2.2.1 (by unfold nxt at h; omega)
theorem nxt_min {v u : Nat} {j : Nat} (h : j < nxt v u) : frK v u j = false := (nxtF_spec v u 256 0).2.2.2 j (Nat.zero_le _) h
theorem nxt_is {v u k : Nat} (hk : k < 256) (h : frK v u k = true) (hm : ∀ j, j < k → frK v u j = false) : nxt v u = k := by
  rcases Nat.lt_trichotomy (nxt v u) k with h1 | h1 | h1
  · have := nxt_fr (v := v) (u := u) (by omega); rw [hm _ h1] at this; cases this
  · exact h1
  · have := nxt_min h1; rw [h] at this; cases this
theorem fr_iff {v u a b : Nat} (hb : b < 16) : frK v u (a * 16 + b) = true ↔ a < b ∧ b < v ∧ u.testBit (a * 16 + b) = false := by
  unfold frK
  have e1 : (a * 16 + b) / 16 = a := by omega
  have e2 : (a * 16 + b) % 16 = b := by omega
  rw [e1, e2]
  simp [and_assoc]
theorem nxt_ab {v u : Nat} (hv : v ≤ 15) (h : nxt v u < 256) : ∃ a b, nxt v u = a * 16 + b ∧ a < b ∧ b < v ∧ u.testBit (a * 16 + b) = false := by
  have hf := nxt_fr h
  have e : nxt v u = (nxt v u / 16) * 16 + nxt v u % 16 := by omega
  rw [e, fr_iff (Nat.mod_lt _ (by omega))] at hf
  exact ⟨_, _, e, hf⟩
/-- the pairs of a block are left -/
def fitQ3 (u a b p : Nat) : Bool := !u.testBit (a * 16 + b) && !u.testBit (a * 16 + p) && !u.testBit (b * 16 + p)
theorem fitQ3_iff {u a b p : Nat} : fitQ3 u a b p = true ↔ u.testBit (a * 16 + b) = false ∧ u.testBit (a * 16 + p) = false ∧ u.testBit (b * 16 + p) = false := by unfold fitQ3; simp [and_assoc]
def blkN (a b p : Nat) : Blk := ((a : Int), (b : Int), (p : Int))
/-- all ways to go on by d blocks -/
def enumC (v : Nat) : Nat → Nat → List Blk → List (List Blk)
  | 0, _, L => [L]
  | d + 1, u, L => loopG (fun p => enumC v d (u ||| prM (nxt v u / 16) (nxt v u % 16) p) (L ++ [blkN (nxt v u / 16) (nxt v u % 16) p])) (fun p => fitQ3 u (nxt v u / 16) (nxt v u % 16) p) (nxt v u % 16 + 1) v
theorem enumC_succ {v u a b : Nat} (d : Nat) (L : List Blk) (hb : b < 16) (h : nxt v u = a * 16 + b) : enumC v (d + 1) u L = loopG (fun p => enumC v d (u ||| prM a b p) (L ++ [blkN a b p])) (fun p => fitQ3 u a b p) (b + 1) v := by
  have e1 : nxt v u / 16 = a := by omega
  have e2 : nxt v u % 16 = b := by omega
  rw [enumC, e1, e2]
/-- how many pairs are left -/
def cntC (v u : Nat) : Nat := cntF (frK v u) 256
theorem cntC_zero {v u : Nat} : cntC v u = 0 ↔ nxt v u = 256 := by
  unfold cntC
  have key : ∀ n, cntF (frK v u) n = 0 ↔ ∀ j, j < n → frK v u j = false := by
    intro n
    induction n with
    | zero => simp [cntF]
    | succ n ih =>
      rw [cntF]
      constructor
      · intro h j hj
        by_cases e : j = n
        · subst e; cases hf : frK v u j
          · rfl
          · rw [hf] at h; simp at h
        · exact ih.1 (by omega) j (by omega)
      · intro h; rw [ih.2 (fun j hj => h j (by omega)), h n (by omega)]; rfl
  rw [key]
  constructor
  · intro h
    have h1 := nxt_le v u
    by_cases e : nxt v u = 256
    · exact e
    · have := nxt_fr (v := v) (u := u) (by omega); rw [h _ (by omega)] at this; cases this
  · intro h j hj; exact nxt_min (by omega)
theorem fr_put {v u a b p : Nat} (hv : v ≤ 15) (hab : a < b) (hbp : b < p) (hp : p < v) (hf : fitQ3 u a b p = true) (k : Nat) (hk : k < 256) : frK v u k = (frK v (u ||| prM a b p) k || (prM a b p).testBit k) ∧ (frK v (u ||| prM a b p) k && (prM a b p).testBit k) = false := by
  obtain ⟨f1, f2, f3⟩ := fitQ3_iff.1 hf
  have hin : (prM a b p).testBit k = true → frK v u k = true := by
    intro h
    rw [prM_bit] at h
    simp only [Bool.or_eq_true, decide_eq_true_eq] at h
    rcases h with (rfl | rfl) | rfl
    · exact (fr_iff (by omega)).2 ⟨by omega, by omega, f1⟩
    · exact (fr_iff (by omega)).2 ⟨by omega, by omega, f2⟩
    · exact (fr_iff (by omega)).2 ⟨by omega, by omega, f3⟩
  have e : frK v (u ||| prM a b p) k = (frK v u k && !(prM a b p).testBit k) := by
    unfold frK; rw [Nat.testBit_or]; cases u.testBit k <;> simp
  rw [e]
  cases h : (prM a b p).testBit k
  · simp
  · simp [hin h]
theorem cntC_put {v u a b p : Nat} (hv : v ≤ 15) (hab : a < b) (hbp : b < p) (hp : p < v) (hf : fitQ3 u a b p = true) : cntC v u = cntC v (u ||| prM a b p) + 3 := by
  unfold cntC
  rw [cntF_or (f := frK v (u ||| prM a b p)) (g := fun k => (prM a b p).testBit k) 256 (fun k hk => fr_put hv hab hbp hp hf k hk)]
  congr 1
  have h1 := cntF_eq (a * 16 + b) 256 (by omega)
  have h2 := cntF_eq (a * 16 + p) 256 (by omega)
  have h3 := cntF_eq (b * 16 + p) 256 (by omega)
  have h4 := cntF_or (f := fun k => decide (k = a * 16 + b)) (g := fun k => decide (k = a * 16 + p)) (h := fun k => decide (k = a * 16 + b) || decide (k = a * 16 + p)) 256 (fun j _ => ⟨rfl, by
    rw [← Bool.not_eq_true, Bool.and_eq_true, decide_eq_true_eq, decide_eq_true_eq]; omega⟩)
  have h5 := cntF_or (f := fun k => decide (k = a * 16 + b) || decide (k = a * 16 + p)) (g := fun k => decide (k = b * 16 + p)) (h := fun k => (prM a b p).testBit k) 256 (fun j _ => ⟨prM_bit a b p j, by
    rw [← Bool.not_eq_true, Bool.and_eq_true, Bool.or_eq_true, decide_eq_true_eq, decide_eq_true_eq, decide_eq_true_eq]; omega⟩)
  omega

/-- what each way looks like -/
theorem enumC_mem {v : Nat} (hv : v ≤ 15) : ∀ d u L M, cntC v u = 3 * d → M ∈ enumC v d u L → ∃ T, M = L ++ T ∧ T.length = d ∧ ∀ t ∈ T, ∃ x y z : Nat, t = blkN x y z ∧ x < y ∧ y < z ∧ z < v ∧ u.testBit (x * 16 + y) = false := by
  intro d
  induction d with
  | zero =>
    intro u L M hc hM
    rw [enumC, List.mem_singleton] at hM
    exact ⟨[], by rw [hM]; simp, rfl, fun t ht => by simp at ht⟩
  | succ d ih =>
    intro u L M hc hM
    have hlt : nxt v u < 256 := by
      have := nxt_le v u
      by_cases e : nxt v u = 256
      · have := cntC_zero.2 e; omega
      · omega
    obtain ⟨a, b, hn, hab, hb, hbit⟩ := nxt_ab hv hlt
    rw [enumC_succ d L (by omega) hn, loopG_mem] at hM
    obtain ⟨p, hp1, hp2, hp3, hM⟩ := hM
    have hput := cntC_put hv hab hp1 hp2 hp3
    obtain ⟨T, rfl, hl, hT⟩ := ih _ _ _ (by omega) hM
    refine ⟨blkN a b p :: T, by simp, by simp [hl], fun t ht => ?_⟩
    rw [List.mem_cons] at ht
    rcases ht with rfl | ht
    · exact ⟨a, b, p, rfl, hab, hp1, hp2, hbit⟩
    · obtain ⟨x, y, z, h1, h2, h3, h4, h5⟩ := hT t ht
      rw [Nat.testBit_or, Bool.or_eq_false_iff] at h5
      exact ⟨x, y, z, h1, h2, h3, h4, h5.1⟩
theorem bef_nat {x y z a b p : Nat} : befB (blkN x y z) (blkN a b p) = true ↔ x < a ∨ x = a ∧ (y < b ∨ y = b ∧ z < p) := by
  unfold befB blkN; simp only [decide_eq_true_eq]; omega
/-- a block that is put in later comes later -/
theorem later {v u a b p x y z : Nat} (hv : v ≤ 15) (hn : nxt v u = a * 16 + b) (hb : b < v) (hp : p < v) (hxy : x < y) (hyz : y < z) (hz : z < v) (h : (u ||| prM a b p).testBit (x * 16 + y) = false) (hab : a < b) : x * 16 + y > a * 16 + b := by
  rw [Nat.testBit_or, Bool.or_eq_false_iff, prM_bit] at h
  obtain ⟨h1, h2⟩ := h
  simp only [Bool.or_eq_false_iff, decide_eq_false_iff_not] at h2
  have : frK v u (x * 16 + y) = true := (fr_iff (by omega)).2 ⟨hxy, by omega, h1⟩
  rcases Nat.lt_or_ge (x * 16 + y) (a * 16 + b) with hlt | hge
  · rw [nxt_min (by omega)] at this; cases this
  · omega
theorem later_bef {x y z a b p : Nat} (hy : y < 16) (hb : b < 16) (h : x * 16 + y > a * 16 + b) : befB (blkN a b p) (blkN x y z) = true := by
  rw [bef_nat]; omega
/-- the ways are in order -/
theorem enumC_asc {v : Nat} (hv : v ≤ 15) : ∀ d u L M, cntC v u = 3 * d → M ∈ enumC v d u L → ∃ T, M = L ++ T ∧ T.Pairwise (fun s t => befB s t = true) := by
  intro d
  induction d with
  | zero =>
    intro u L M hc hM
    rw [enumC, List.mem_singleton] at hM
    exact ⟨[], by rw [hM]; simp, List.Pairwise.nil⟩
  | succ d ih =>
    intro u L M hc hM
    have hlt : nxt v u < 256 := by
      have := nxt_le v u
      by_cases e : nxt v u = 256
      · have := cntC_zero.2 e; omega
      · omega
    obtain ⟨a, b, hn, hab, hb, hbit⟩ := nxt_ab hv hlt
    rw [enumC_succ d L (by omega) hn, loopG_mem] at hM
    obtain ⟨p, hp1, hp2, hp3, hM⟩ := hM
    have hput := cntC_put hv hab hp1 hp2 hp3
    obtain ⟨T, rfl, hT⟩ := ih _ _ _ (by omega) hM
    obtain ⟨T', e, _, hT'⟩ := enumC_mem hv _ _ _ _ (by omega) hM
    have e' : T = T' := List.append_cancel_left e
    subst e'
    refine ⟨blkN a b p :: T, by simp, List.pairwise_cons.2 ⟨fun t ht => ?_, hT⟩⟩
    obtain ⟨x, y, z, rfl, h2, h3, h4, h5⟩ := hT' t ht
    exact later_bef (by omega) (by omega) (later hv hn hb hp2 h2 h3 h4 h5 hab)
/-- whether a list of blocks comes ahead of another one of the same length -/
def befL : List Blk → List Blk → Bool
  | a :: xs, b :: ys => if a = b then befL xs ys else befB a b
  | _, _ => false
theorem befL_pre (P : List Blk) {c b : Blk} (A B : List Blk) (h : befB c b = true) : befL (P ++ b :: B) (P ++ c :: A) = false := by
  induction P with
  | nil =>
    have hne : ¬ b = c := fun e => by rw [e, bef_irr] at h; cases h
    rw [List.nil_append, List.nil_append, befL, if_neg hne]
    cases hb : befB b c
    · rfl
    · have := bef_tr h hb; rw [bef_irr] at this; cases this
  | cons x P ih => rw [List.cons_append, List.cons_append, befL, if_pos rfl]; exact ih
theorem srt_split (S T : List Blk) (c : Blk) (hc : ∀ s ∈ S, befB s c = true ∨ befB c s = true) (hT : ∀ t ∈ T, befB c t = true) :
    srtL (S ++ T) = srtL (S.filter fun s => befB s c) ++ srtL ((S.filter fun s => befB c s) ++ T) := by
  have hlow : ∀ x ∈ srtL (S.filter fun s => befB s c), befB x c = true := fun x hx => by
    have := (srt_perm _).mem_iff.1 hx; simp only [List.mem_filter] at this; exact this.2
  have hhigh : ∀ x ∈ srtL ((S.filter fun s => befB c s) ++ T), befB c x = true := fun x hx => by
    have := (srt_perm _).mem_iff.1 hx
    simp only [List.mem_append, List.mem_filter] at this
    rcases this with h | h
    · exact h.2
    · exact hT x h
  refine srt_uniq ?_ ?_
  · refine ((srt_perm _).append (srt_perm _)).trans ?_
    rw [← List.append_assoc]
    refine List.Perm.append_right T ?_
    have hp := List.filter_append_perm (fun s => befB s c) S
    have e : S.filter (fun s => !befB s c) = S.filter (fun s => befB c s) := List.filter_congr fun s hs => by
      rcases hc s hs with h | h
      · rw [h]
        cases h2 : befB c s
        · rfl
        · have := bef_tr h h2; rw [bef_irr] at this; cases this
      · rw [h]
        cases h2 : befB s c
        · rfl
        · have := bef_tr h h2; rw [bef_irr] at this; cases this
    rw [e] at hp; exact hp
  · rw [List.pairwise_append]
    refine ⟨srt_sorted _, srt_sorted _, fun x hx y hy => bef_le (bef_tr (hlow x hx) (hhigh y hy))⟩
theorem srt_head {T : List Blk} {c : Blk} (hT : ∀ t ∈ T, befB c t = true) (S : List Blk) (hS : ∀ s ∈ S, befB c s = true) : srtL (S ++ c :: T) = c :: srtL (S ++ T) := by
  refine srt_uniq ?_ ?_
  · refine (List.Perm.cons c (srt_perm _)).trans ?_
    exact (List.perm_middle).symm
  · rw [List.pairwise_cons]
    refine ⟨fun x hx => ?_, srt_sorted _⟩
    have := (srt_perm _).mem_iff.1 hx
    rw [List.mem_append] at this
    rcases this with h | h
    · exact bef_le (hS x h)
    · exact bef_le (hT x h)
/-- ways in order are systems in order -/
theorem enumC_pair {v : Nat} (hv : v ≤ 15) (X : List Blk) : ∀ d u L, cntC v u = 3 * d → (∀ s ∈ X ++ L, ∃ x y z : Nat, s = blkN x y z ∧ x < y ∧ y < z ∧ z < v ∧ u.testBit (x * 16 + y) = true) →
    (enumC v d u L).Pairwise (fun M N => befL (srtL (X ++ N)) (srtL (X ++ M)) = false) := by
  intro d
  induction d with
  | zero => intro u L _ _; rw [enumC]; exact List.pairwise_singleton _ _
  | succ d ih =>
    intro u L hc hX
    have hlt : nxt v u < 256 := by
      have := nxt_le v u
      by_cases e : nxt v u = 256
      · have := cntC_zero.2 e; omega
      · omega
    obtain ⟨a, b, hn, hab, hb, hbit⟩ := nxt_ab hv hlt
    rw [enumC_succ d L (by omega) hn]
    have hput : ∀ p, b + 1 ≤ p → p < v → fitQ3 u a b p = true → cntC v (u ||| prM a b p) = 3 * d := fun p h1 h2 h3 => by have := cntC_put hv hab h1 h2 h3; omega
    refine loopG_pair v (fun p hp1 hp2 hp3 => ih _ _ (hput p hp1 hp2 hp3) fun s hs => ?_) fun p q hp1 hpq hq hfp hfq M hM N hN => ?_
    · rw [← List.append_assoc, List.mem_append, List.mem_singleton] at hs
      rcases hs with hs | rfl
      · obtain ⟨x, y, z, h1, h2, h3, h4, h5⟩ := hX s hs
        exact ⟨x, y, z, h1, h2, h3, h4, by rw [Nat.testBit_or, h5]; rfl⟩
      · exact ⟨a, b, p, rfl, hab, hp1, hp2, by rw [Nat.testBit_or, prM_bit]; simp⟩
    · obtain ⟨T1, rfl, _, hT1⟩ := enumC_mem hv _ _ _ _ (hput p hp1 (by omega) hfp) hM
      obtain ⟨T2, rfl, _, hT2⟩ := enumC_mem hv _ _ _ _ (hput q (by omega) hq hfq) hN
      have hS : ∀ s ∈ X ++ L, befB s (blkN a b p) = true ∨ befB (blkN a b p) s = true := fun s hs => by
        obtain ⟨x, y, z, rfl, h2, h3, h4, h5⟩ := hX s hs
        have : ¬ (x = a ∧ y = b) := fun ⟨e1, e2⟩ => by subst e1 e2; rw [hbit] at h5; cases h5
        rw [bef_nat, bef_nat]; omega
      have k1 : ∀ t ∈ T1, befB (blkN a b p) t = true := fun t ht => by
        obtain ⟨x, y, z, rfl, h2, h3, h4, h5⟩ := hT1 t ht
        exact later_bef (by omega) (by omega) (later hv hn hb (by omega) h2 h3 h4 h5 hab)
      have k2 : ∀ t ∈ T2, befB (blkN a b p) t = true := fun t ht => by
        obtain ⟨x, y, z, rfl, h2, h3, h4, h5⟩ := hT2 t ht
        exact later_bef (by omega) (by omega) (later hv hn hb hq h2 h3 h4 h5 hab)
      have hpq' : befB (blkN a b p) (blkN a b q) = true := by rw [bef_nat]; omega
      have e1 : X ++ (L ++ [blkN a b p] ++ T1) = (X ++ L) ++ (blkN a b p :: T1) := by simp
      have e2 : X ++ (L ++ [blkN a b q] ++ T2) = (X ++ L) ++ (blkN a b q :: T2) := by simp
      have hT2' : ∀ t ∈ blkN a b q :: T2, befB (blkN a b p) t = true := fun t ht => by
        rw [List.mem_cons] at ht
        rcases ht with rfl | ht
        · exact hpq'
        · exact k2 t ht
      have hfil : ∀ s ∈ (X ++ L).filter (fun s => befB (blkN a b p) s), befB (blkN a b p) s = true := fun s hs => by simp only [List.mem_filter] at hs; exact hs.2
      have e3 : srtL ((X ++ L) ++ (blkN a b p :: T1)) = srtL ((X ++ L).filter fun s => befB s (blkN a b p)) ++ blkN a b p :: srtL ((X ++ L).filter (fun s => befB (blkN a b p) s) ++ T1) := by
        have hsp := srt_split ((X ++ L) ++ [blkN a b p]) T1 (blkN a b p)
        refine srt_uniq ?_ ?_
        · rw [← srt_head k1 _ hfil]
          refine ((srt_perm _).append (srt_perm _)).trans ?_
          rw [← List.append_assoc]
          refine List.Perm.append_right _ ?_
          have hp := List.filter_append_perm (fun s => befB s (blkN a b p)) (X ++ L)
          have e : (X ++ L).filter (fun s => !befB s (blkN a b p)) = (X ++ L).filter (fun s => befB (blkN a b p) s) := List.filter_congr fun s hs => by
            rcases hS s hs with h | h
            · rw [h]
              cases h2 : befB (blkN a b p) s
              · rfl
              · have := bef_tr h h2; rw [bef_irr] at this; cases this
            · rw [h]
              cases h2 : befB s (blkN a b p)
              · rfl
              · have := bef_tr h h2; rw [bef_irr] at this; cases this
          rw [e] at hp; exact hp
        · rw [← srt_head k1 _ hfil, List.pairwise_append]
          refine ⟨srt_sorted _, srt_sorted _, fun x hx y hy => ?_⟩
          have hx' := (srt_perm _).mem_iff.1 hx
          have hy' := (srt_perm _).mem_iff.1 hy
          simp only [List.mem_filter] at hx'
          rw [List.mem_append, List.mem_cons] at hy'
          rcases hy' with h | rfl | h
          · exact bef_le (bef_tr hx'.2 (hfil y h))
          · exact bef_le hx'.2
          · exact bef_le (bef_tr hx'.2 (k1 y h))
      have e4 := srt_split (X ++ L) (blkN a b q :: T2) (blkN a b p) hS hT2'
      rw [e1, e2, e3, e4]
      have hne : ∃ y ys, srtL ((X ++ L).filter (fun s => befB (blkN a b p) s) ++ blkN a b q :: T2) = y :: ys ∧ befB (blkN a b p) y = true := by
        cases h : srtL ((X ++ L).filter (fun s => befB (blkN a b p) s) ++ blkN a b q :: T2) with
        | nil => have := srt_len ((X ++ L).filter (fun s => befB (blkN a b p) s) ++ blkN a b q :: T2); rw [h] at this; simp at this
        | cons y ys =>
          refine ⟨y, ys, rfl, ?_⟩
          have hy : y ∈ srtL ((X ++ L).filter (fun s => befB (blkN a b p) s) ++ blkN a b q :: T2) := by rw [h]; simp
          have := (srt_perm _).mem_iff.1 hy
          rw [List.mem_append] at this
          rcases this with h | h
          · exact hfil y h
          · exact hT2' y h
      obtain ⟨y, ys, e5, hy⟩ := hne
      rw [e5]
      exact befL_pre _ _ _ hy

end Go.Proofs.Ytbknpflbafjblaa

/- Plain laws of searches that stop, over any kind of finds. Conditions: none. -/
namespace Go.Proofs.Ytbknpflbafjblaa
set_option linter.unusedSimpArgs false
set_option linter.unusedVariables false

section
variable {α : Type}
def takeG (found : List α) (most : Nat) (Ls : List α) : List α := found ++ Ls.take (most - found.length)
theorem takeG_nil (found : List α) (most : Nat) : takeG found most [] = found := by simp [takeG]
theorem takeG_full {found : List α} {most : Nat} (h : most ≤ found.length) (Ls : List α) : takeG found most Ls = found := by
  unfold takeG
  have : most - found.length = 0 := by omega
  rw [this]; simp
theorem takeG_app (found : List α) (most : Nat) (A B : List α) : takeG found most (A ++ B) = takeG (takeG found most A) most B := by
  unfold takeG
  rw [List.take_append, List.append_assoc]
  congr 2
  rw [List.length_append, List.length_take]
  by_cases h : A.length ≤ most - found.length
  · rw [Nat.min_eq_right h]; congr 1; omega
  · have h1 : most - found.length - A.length = 0 := by omega
    have h2 : most - (found.length + min (most - found.length) A.length) = 0 := by omega
    rw [h1, h2]
theorem takeG_one {found : List α} {most : Nat} (h : found.length < most) (L : α) : takeG found most [L] = found ++ [L] := by
  unfold takeG
  rw [List.take_of_length_le (by simp; omega)]
theorem takeG_len {found : List α} {most : Nat} (h : found.length ≤ most) (Ls : List α) : (takeG found most Ls).length ≤ most := by
  unfold takeG; rw [List.length_append, List.length_take]; omega
theorem takeG_stop {f : Nat → List α} {p : Nat → Bool} {F D : List α} {most k a : Nat} (e : takeG F most (loopG f p a k) = D) (hD : most ≤ D.length) : ∀ n, k ≤ n → takeG F most (loopG f p a n) = D := by
  intro n
  induction n with
  | zero => intro h; obtain rfl : k = 0 := by omega
            exact e
  | succ n ih =>
    intro h
    by_cases hk : k = n + 1
    · subst hk; exact e
    · rw [loopG, takeG_app, ih (by omega), takeG_full hD]
def runG (cont : List α → Bool) : List α → List α → List α × Bool
  | [], C => (C, true)
  | L :: Ls, C => if cont (C ++ [L]) = true then runG cont Ls (C ++ [L]) else (C ++ [L], false)
theorem runG_app (cont : List α → Bool) : ∀ A B C, runG cont (A ++ B) C = if (runG cont A C).2 = true then runG cont B (runG cont A C).1 else runG cont A C := by
  intro A
  induction A with
  | nil => intro B C; simp [runG]
  | cons L A ih =>
    intro B C
    rw [List.cons_append, runG, runG]
    by_cases h : cont (C ++ [L]) = true
    · rw [if_pos h, if_pos h, ih]
    · rw [if_neg h, if_neg h]; simp
theorem runG_one (cont : List α → Bool) (L : α) (C : List α) : runG cont [L] C = (C ++ [L], cont (C ++ [L])) := by
  rw [runG]; cases cont (C ++ [L]) <;> simp [runG]
theorem runG_all {cont : List α → Bool} (h : ∀ C, cont C = true) : ∀ A C, runG cont A C = (C ++ A, true) := by
  intro A
  induction A with
  | nil => intro C; simp [runG]
  | cons L A ih => intro C; rw [runG, if_pos (h _), ih]; simp
theorem runG_stop {cont : List α → Bool} {f : Nat → List α} {p : Nat → Bool} {C D : List α} {k a : Nat} (e : runG cont (loopG f p a k) C = (D, false)) : ∀ n, k ≤ n → runG cont (loopG f p a n) C = (D, false) := by
  intro n
  induction n with
  | zero => intro h; obtain rfl : k = 0 := by omega
            exact e
  | succ n ih =>
    intro h
    by_cases hk : k = n + 1
    · subst hk; exact e
    · rw [loopG, runG_app, ih (by omega)]; simp
theorem runG_go {cont : List α → Bool} : ∀ {Ls C D : List α}, runG cont Ls C = (D, true) → (C = [] ∨ cont C = true) → (D = [] ∨ cont D = true) := by
  intro Ls
  induction Ls with
  | nil => intro C D h hc; simp only [runG, Prod.mk.injEq, and_true] at h; subst h; exact hc
  | cons L Ls ih =>
    intro C D h hc
    rw [runG] at h
    by_cases hh : cont (C ++ [L]) = true
    · rw [if_pos hh] at h; exact ih h (.inr hh)
    · rw [if_neg hh] at h; simp at h
theorem runG_cap (most : Nat) : ∀ (Ls C : List α), C.length < most → (runG (fun C => decide (C.length < most)) Ls C).1 = takeG C most Ls := by
  intro Ls
  induction Ls with
  | nil => intro C h; rw [takeG_nil]; rfl
  | cons L Ls ih =>
    intro C h
    have e : takeG C most (L :: Ls) = takeG (C ++ [L]) most Ls := by
      have := takeG_app C most [L] Ls
      rw [takeG_one h] at this
      exact this
    rw [runG, e]
    by_cases hl : (C ++ [L]).length < most
    · rw [if_pos (by simpa using hl)]; exact ih _ hl
    · rw [if_neg (by simpa using hl), takeG_full (by omega)]
end

end Go.Proofs.Ytbknpflbafjblaa

/- Lists of systems in memory; conditions: none. -/
namespace Go.Proofs.Ytbknpflbafjblaa
open Go.RowKit
set_option maxRecDepth 100000
set_option linter.unusedSimpArgs false
set_option linter.unusedVariables false

theorem infoSys' : (Try.prog.info? 30).map (fun i => (i.zero, i.size, i.bytes)) = some (some (.agg #[.int .i64 0, .slice none 0 0]), 2, 32) := by kernel_rfl
def nthB (ss : List (List Blk)) (k : Nat) : List Blk := ss.getD k []
theorem nthB_app {ss : List (List Blk)} {x : List Blk} {k : Nat} (h : k < ss.length) : nthB (ss ++ [x]) k = nthB ss k := by simp [nthB, List.getElem?_append_left h]
theorem nthB_last (ss : List (List Blk)) (x : List Blk) : nthB (ss ++ [x]) ss.length = x := by simp [nthB]
/-- the cells of k systems of n points -/
def hdS (n : Int) (hs : Nat → Value) (k : Nat) : List Value := (List.range k).flatMap fun i => [.int .i64 n, hs i]
theorem hdS_succ (n : Int) (hs : Nat → Value) (k : Nat) : hdS n hs (k + 1) = hdS n hs k ++ [.int .i64 n, hs k] := by simp [hdS, List.range_succ]
theorem hdS_len (n : Int) (hs : Nat → Value) : ∀ k, (hdS n hs k).length = k * 2 := by
  intro k
  induction k with
  | zero => rfl
  | succ k ih => rw [hdS_succ, List.length_append, ih]; simp; omega
theorem hdS_get (n : Int) (hs : Nat → Value) : ∀ k i, i < k → (hdS n hs k)[i * 2]? = some (.int .i64 n) ∧ (hdS n hs k)[i * 2 + 1]? = some (hs i) := by
  intro k
  induction k with
  | zero => intro i hi; omega
  | succ k ih =>
    intro i hi
    have hl := hdS_len n hs k
    rw [hdS_succ]
    by_cases e : i < k
    · rw [List.getElem?_append_left (by omega), List.getElem?_append_left (by omega)]; exact ih i e
    · obtain rfl : i = k := by omega
      rw [List.getElem?_append_right (by omega), List.getElem?_append_right (by omega)]
      have e1 : i * 2 - (hdS n hs i).length = 0 := by omega
      have e2 : i * 2 + 1 - (hdS n hs i).length = 1 := by omega
      rw [e1, e2]; exact ⟨rfl, rfl⟩
theorem hdS_congr {n : Int} {hs hs' : Nat → Value} : ∀ k, (∀ i, i < k → hs i = hs' i) → hdS n hs k = hdS n hs' k := by
  intro k
  induction k with
  | zero => intro _; rfl
  | succ k ih => intro h; rw [hdS_succ, hdS_succ, ih (fun i hi => h i (by omega)), h k (by omega)]
/-- rows of different types lie apart -/
theorem own_apart {w : World} {b1 b2 s1 s2 n1 n2 : Nat} {t1 t2 : TypeId} {u v : Value} {xs ys : List Value} (h : w.ownsRow b1 t1 s1 u n1 xs) (k : w.ownsRow b2 t2 s2 v n2 ys) (ht : t1 ≠ t2) : ∀ b, v.ownBlock = some b → u.ownBlock ≠ some b := by
  intro b e
  rcases k.2 with ⟨rfl, _⟩ | ⟨g, cap, cur, rfl, _, hg, _⟩
  · simp [Value.ownBlock] at e
  · have e2 : g = b := by simpa [Value.ownBlock] using e
    subst e2
    exact own_typed h ⟨cur, hg⟩ ht
theorem own_zone2 {w w' : World} {base size n : Nat} {t : TypeId} {v : Value} {xs : List Value} (h : w.ownsRow base t size v n xs) (hz : ∀ k, v.ownBlock = some k → k < w.heap.size → w'.heap[k]? = w.heap[k]?) : w'.ownsRow base t size v n xs := by
  refine ⟨h.1, ?_⟩
  rcases h.2 with h' | ⟨g, cap, cur, hv, hg, hR, r⟩
  · exact .inl h'
  · exact .inr ⟨g, cap, cur, hv, hg, (hz g (by rw [hv]; rfl) (Row.lt hR)).trans hR, r⟩
/-- u is a row of its own of systems of n points, each with blocks that are a row of their own, all apart; S has all their blocks -/
def LSS (S : Nat → Prop) (w : World) (base n : Nat) (u : Value) (ss : List (List Blk)) : Prop :=
  (∀ b, S b → b < w.heap.size) ∧ ∃ hs : Nat → Value, w.ownsRow base 30 2 u ss.length (hdS n hs ss.length) ∧ (∀ k, k < ss.length → OB w base (hs k) (nthB ss k)) ∧ (∀ j k, j < ss.length → k < ss.length → j ≠ k → ∀ b, (hs j).ownBlock = some b → (hs k).ownBlock ≠ some b) ∧ (∀ b, u.ownBlock = some b → S b) ∧ ∀ k, k < ss.length → ∀ b, (hs k).ownBlock = some b → S b
theorem LSS.nil (w : World) (base n : Nat) : LSS (fun _ => False) w base n (.slice none 0 0) [] := ⟨fun _ h => h.elim, fun _ => .slice none 0 0, World.ownsRow_nil _ _ _ _, fun k hk => by simp at hk, fun j k hj => by simp at hj, fun b e => by simp [Value.ownBlock] at e, fun k hk => by simp at hk⟩
theorem LSS.slice {S : Nat → Prop} {w : World} {base n : Nat} {u : Value} {ss : List (List Blk)} (h : LSS S w base n u ss) : ∃ A c, u = .slice A ss.length c := by
  obtain ⟨_, hs, ho, _⟩ := h; exact own_slice ho
theorem LSS.kept {S : Nat → Prop} {w w' : World} {base n : Nat} {u : Value} {ss : List (List Blk)} {row : Option Nat} (h : LSS S w base n u ss) (hg : w.grownBy w' row) (hr : ∀ k, row = some k → ¬ S k) : LSS S w' base n u ss := by
  obtain ⟨hl, hs, ho, hi, hd, hu, he⟩ := h
  refine ⟨fun b hb => Nat.lt_of_lt_of_le (hl b hb) hg.size, hs, ?_, fun k hk => ?_, hd, hu, he⟩
  · refine own_zone2 ho fun k e hk => hg.block k hk fun e2 => hr k e2.symm (hu k e)
  · exact own_zone2 (hi k hk) fun j e hj => hg.block j hj fun e2 => hr j e2.symm (he k hk j e)
theorem LSS.below {S : Nat → Prop} {w w' : World} {base n : Nat} {u : Value} {ss : List (List Blk)} (h : LSS S w base n u ss) (hb : Below w.heap.size w w') : LSS S w' base n u ss := h.kept (row := none) (grown_below hb none) (fun k e => by cases e)
theorem LSS.base {S : Nat → Prop} {w : World} {base b' n : Nat} {u : Value} {ss : List (List Blk)} (h : LSS S w base n u ss) (hb : b' ≤ base) : LSS S w b' n u ss := by
  obtain ⟨hl, hs, ho, hi, r⟩ := h
  exact ⟨hl, hs, own_base ho hb, fun k hk => OB.base (hi k hk) hb, r⟩
/-- one system more -/
theorem LSS.push {S : Nat → Prop} {w : World} {base n : Nat} {u : Value} {ss : List (List Blk)} (h : LSS S w base n u ss) : ∃ hs : Nat → Value, w.ownsRow base 30 2 u ss.length (hdS n hs ss.length) ∧
    ∀ (w1 w1' w2 : World) (r v2 : Value) (s : List Blk), Below w.heap.size w w1 → OB w1 base r s → (∀ b, r.ownBlock = some b → w.heap.size ≤ b) → Below w1.heap.size w1 w1' → w1'.grownBy w2 u.ownBlock → w2.ownsRow base 30 2 v2 (ss.length + 1) (hdS n hs ss.length ++ [.int .i64 n, r]) → (v2.ownBlock = u.ownBlock ∨ ∃ q, v2.ownBlock = some q ∧ w.heap.size ≤ q) →
      LSS (fun b => S b ∨ (w.heap.size ≤ b ∧ b < w2.heap.size)) w2 base n v2 (ss ++ [s]) := by
  obtain ⟨hl, hs, ho, hi, hd, hu, he⟩ := h
  refine ⟨hs, ho, fun w1 w1' w2 r v2 s hb hr hfr hb' hg hown hat => ?_⟩
  have hz1 := hb.size; have hz2 := hb'.size; have hz3 := hg.size
  have hslt : ∀ b, (∃ k, k < ss.length ∧ (hs k).ownBlock = some b) → b < w.heap.size := fun b ⟨k, hk, e⟩ => ((hi k hk).lt b e).2
  have hrlt : ∀ b, r.ownBlock = some b → b < w1.heap.size := fun b e => (hr.lt b e).2
  have hv2lt : ∀ b, v2.ownBlock = some b → b < w2.heap.size := fun b e => (hown.lt b e).2
  have hru : ∀ b, r.ownBlock = some b → u.ownBlock ≠ some b := fun b e e2 => by have := hfr b e; have := (ho.lt b e2).2; omega
  refine ⟨fun b hb2 => ?_, updA hs ss.length r, ?_, fun k hk => ?_, fun j k hj hk hjk b e => ?_, fun b e => ?_, fun k hk b e => ?_⟩
  · rcases hb2 with h | h
    · have := hl b h; omega
    · exact h.2
  · rw [List.length_append, List.length_singleton, hdS_succ, updA_same, hdS_congr (hs' := hs) _ (fun i hi2 => updA_ne hs r (by omega))]
    exact hown
  · rw [List.length_append, List.length_singleton] at hk
    by_cases ek : k = ss.length
    · subst ek
      rw [updA_same, nthB_last]
      exact own_zone2 (own_below hr hb') fun b e hb3 => hg.block b hb3 fun e2 => hru b e e2.symm
    · have hk2 : k < ss.length := by omega
      rw [updA_ne _ _ ek, nthB_app hk2]
      exact own_zone2 (own_below (own_below (hi k hk2) hb) hb') fun b e hb3 => hg.block b hb3 fun e2 => own_apart ho (hi k hk2) (by decide) b e e2.symm
  · rw [List.length_append, List.length_singleton] at hj hk
    by_cases ej : j = ss.length
    · subst ej
      rw [updA_same] at e
      rw [updA_ne _ _ (Ne.symm hjk)]
      intro e2; have := hfr b e; have := hslt b ⟨k, by omega, e2⟩; omega
    · rw [updA_ne _ _ ej] at e
      by_cases ek : k = ss.length
      · subst ek
        rw [updA_same]
        intro e2; have := hfr b e2; have := hslt b ⟨j, by omega, e⟩; omega
      · rw [updA_ne _ _ ek]; exact hd j k (by omega) (by omega) hjk b e
  · rcases hat with h | ⟨q, h, hq⟩
    · exact .inl (hu b (h ▸ e))
    · have := hv2lt b e
      rw [h] at e; simp only [Option.some.injEq] at e
      exact .inr ⟨by omega, this⟩
  · rw [List.length_append, List.length_singleton] at hk
    by_cases ek : k = ss.length
    · subst ek
      rw [updA_same] at e
      exact .inr ⟨hfr b e, by have := hrlt b e; omega⟩
    · rw [updA_ne _ _ ek] at e
      exact .inl (he k (by omega) b e)
/-- a system of a list, to be read -/
theorem LSS.rd {S : Nat → Prop} {w : World} {base n : Nat} {A : Option Addr} {m c : Nat} {ss : List (List Blk)} (h : LSS S w base n (.slice A m c) ss) {k : Nat} (hk : k < ss.length) :
    ∃ g B d, A = some ⟨g, 0, none⟩ ∧ g < w.heap.size ∧ base ≤ g ∧ w.cell? ⟨g, k * 2, none⟩ = some (.int .i64 n) ∧ w.cell? ⟨g, k * 2 + 1, none⟩ = some (.slice B (nthB ss k).length d) ∧ OB w base (.slice B (nthB ss k).length d) (nthB ss k) := by
  obtain ⟨_, hs, ho, hi, _⟩ := h
  obtain ⟨B, d, e⟩ := own_slice (hi k hk)
  rcases ho.2 with ⟨_, hn⟩ | ⟨g, cap, cur, hv, hge, hg, hnc, _, hcs, htk⟩
  · omega
  · simp only [Value.slice.injEq] at hv
    have key : ∀ j, j < ss.length * 2 → w.cell? ⟨g, j, none⟩ = (hdS n hs ss.length)[j]? := fun j hj => by
      rw [Row.cell (w := w) (t := 30) (cur := cur) hg, ← htk, List.getElem?_take_of_lt hj, Array.getElem?_toList]
    have h2 := hdS_get n hs ss.length k hk
    refine ⟨g, B, d, hv.1, Row.lt (w := w) (t := 30) (cur := cur) hg, hge, ?_, ?_, ?_⟩
    · rw [key _ (by omega)]; exact h2.1
    · rw [key _ (by omega), h2.2, e]
    · rw [← e]; exact hi k hk

end Go.Proofs.Ytbknpflbafjblaa

/- Rows of truth values that a call makes and writes; conditions: none. -/
namespace Go.Proofs.Ytbknpflbafjblaa
open Go.RowKit
set_option maxRecDepth 100000
set_option linter.unusedSimpArgs false
set_option linter.unusedVariables false

def bcells (n : Nat) (F : Nat → Bool) : Array Value := ((List.range n).map fun i => Value.bool (F i)).toArray
theorem bcells_size (n : Nat) (F : Nat → Bool) : (bcells n F).size = n := by simp [bcells]
theorem bcells_get {n i : Nat} (F : Nat → Bool) (h : i < n) : (bcells n F)[i]? = some (.bool (F i)) := by simp [bcells, h]
theorem bcells_set (n i : Nat) (F : Nat → Bool) (v : Bool) : (bcells n F).setIfInBounds i (.bool v) = bcells n (updA F i v) := by
  apply Array.ext_getElem?
  intro j
  rw [Array.getElem?_setIfInBounds, bcells_size]
  by_cases h : i = j
  · subst h
    rw [if_pos rfl]
    by_cases hi : i < n
    · rw [if_pos hi, bcells_get _ hi]; simp [updA]
    · rw [if_neg hi, Array.getElem?_eq_none (by rw [bcells_size]; omega)]
  · rw [if_neg h]
    by_cases hj : j < n
    · rw [bcells_get _ hj, bcells_get _ hj, updA, if_neg (fun e => h e.symm)]
    · rw [Array.getElem?_eq_none (by rw [bcells_size]; omega), Array.getElem?_eq_none (by rw [bcells_size]; omega)]
/-- Block g holds the n truth values F 0, F 1, .. -/
def Vb (w : World) (g n : Nat) (F : Nat → Bool) : Prop := Row w g 4 (bcells n F)
theorem Vb.lt {w : World} {g n : Nat} {F : Nat → Bool} (h : Vb w g n F) : g < w.heap.size := Row.lt h
theorem Vb.below {w w' : World} {g n : Nat} {F : Nat → Bool} (h : Vb w g n F) (hb : Below w.heap.size w w') : Vb w' g n F := Row.below h hb
theorem Vb.cell {w : World} {g n : Nat} {F : Nat → Bool} (h : Vb w g n F) {i : Nat} (hi : i < n) : w.cell? ⟨g, i, none⟩ = some (.bool (F i)) := (Row.cell h i).trans (bcells_get F hi)
theorem Vb.frozen {w : World} {g n : Nat} {F : Nat → Bool} (h : Vb w g n F) (i : Nat) : w.frozen? ⟨g, i, none⟩ = false := Row.frozen h i
theorem Vb.set {w : World} {g n : Nat} {F : Nat → Bool} (h : Vb w g n F) (i : Nat) (v : Bool) : Vb (w.setCell ⟨g, i, none⟩ (.bool v)) g n (updA F i v) := by
  have := Row.set h i (.bool v)
  rw [bcells_set] at this
  exact this
theorem Vb.ext {w : World} {g n : Nat} {F G : Nat → Bool} (h : Vb w g n F) (e : ∀ i, i < n → F i = G i) : Vb w g n G := by
  have : bcells n F = bcells n G := by unfold bcells; congr 1; exact List.map_congr_left fun i hi => by rw [e i (List.mem_range.1 hi)]
  unfold Vb at *; rwa [← this]
theorem Vb.grown {w w' : World} {g n : Nat} {F : Nat → Bool} {row : Option Nat} (h : Vb w g n F) (hg : w.grownBy w' row) (hne : row ≠ some g) : Vb w' g n F := Row.grown h hg hne
theorem Vb.far {w : World} {g n : Nat} {F : Nat → Bool} (h : Vb w g n F) {p : Addr} (hne : p.block ≠ g) (u : Value) : Vb (w.setCell p u) g n F := Row.far h hne u
theorem Vb.new (w : World) (n : Nat) (F : Nat → Bool) : Vb (w.alloc (.cells (bcells n F) 4)) w.heap.size n F := Row.new w _ _
theorem infoBool' : (Try.prog.info? 4).map (fun i => (i.zero, i.size, i.bytes)) = some (some (.bool false), 1, 1) := by kernel_rfl
theorem made_bools (n : Nat) : madeCells (Value.cells (.bool false)) (n * 1) = bcells n (fun _ => false) := by
  apply Array.ext'
  simp [bcells, madeCells, Value.cells, Nat.mod_one]
@[go_sem] theorem make_bools (m : Int) (W : World) (h0 : 0 ≤ m) (h1 : m ≤ 1000000) : (Instr.makeSlice 108 (.int .i64 m) (.int .i64 m)).run Try.prog W = .ok (.slice (some ⟨W.heap.size, 0, none⟩) m.toNat m.toNat) (W.alloc (.cells (bcells m.toNat (fun _ => false)) 4)) := by
  obtain ⟨ni0, hni, hni0, hni1, hni2⟩ := info_parts infoBool'
  have h := run_make (P := Try.prog) W 108 4 ni0 (.bool false) Try.underlying108 hni hni0 .i64 .i64 m m h0 (Int.le_refl _) (by rw [hni2]; omega) (by omega)
  rw [h, hni1, made_bools]

end Go.Proofs.Ytbknpflbafjblaa

/- Words for the reference's search for completions in memory; conditions: none. -/
namespace Go.Proofs.Ytbknpflbafjblaa
open Go.RowKit
set_option maxRecDepth 100000
set_option linter.unusedSimpArgs false
set_option linter.unusedVariables false

theorem infoBlks' : (Try.prog.info? 28).map (fun i => (i.zero, i.size, i.bytes)) = some (some (.slice none 0 0), 1, 24) := by kernel_rfl
/-- the cells of the reference's search: its number of points, used pairs, how many it has, how many it wants, whether they are kept, those that are kept -/
def sVals (n g k most : Nat) (keep : Bool) (u : Value) : Array Value := #[.int .i64 n, .slice (some ⟨g, 0, none⟩) 256 256, .int .i64 k, .int .i64 most, .bool keep, u]
def Sk (w : World) (s n g k most : Nat) (keep : Bool) (u : Value) : Prop := Row w s 111 (sVals n g k most keep u)
theorem Sk.lt {w : World} {s n g k most : Nat} {keep : Bool} {u : Value} (h : Sk w s n g k most keep u) : s < w.heap.size := Row.lt h
theorem Sk.c6 {w : World} {s n g k most : Nat} {keep : Bool} {u : Value} (h : Sk w s n g k most keep u) : w.cell? ⟨s, 0, none⟩ = some (.int .i64 n) ∧ w.cell? ⟨s, 1, none⟩ = some (.slice (some ⟨g, 0, none⟩) 256 256) ∧ w.cell? ⟨s, 2, none⟩ = some (.int .i64 k) ∧ w.cell? ⟨s, 3, none⟩ = some (.int .i64 most) ∧ w.cell? ⟨s, 4, none⟩ = some (.bool keep) ∧ w.cell? ⟨s, 5, none⟩ = some u :=
  ⟨(Row.cell h 0).trans rfl, (Row.cell h 1).trans rfl, (Row.cell h 2).trans rfl, (Row.cell h 3).trans rfl, (Row.cell h 4).trans rfl, (Row.cell h 5).trans rfl⟩
theorem Sk.frozen {w : World} {s n g k most : Nat} {keep : Bool} {u : Value} (h : Sk w s n g k most keep u) (i : Nat) : w.frozen? ⟨s, i, none⟩ = false := Row.frozen h i
theorem Sk.below {w w' : World} {s n g k most : Nat} {keep : Bool} {u : Value} (h : Sk w s n g k most keep u) (hb : Below w.heap.size w w') : Sk w' s n g k most keep u := Row.below h hb
theorem Sk.grown {w w' : World} {s n g k most : Nat} {keep : Bool} {u : Value} {row : Option Nat} (h : Sk w s n g k most keep u) (hg : w.grownBy w' row) (hne : row ≠ some s) : Sk w' s n g k most keep u := Row.grown h hg hne
theorem Sk.far {w : World} {s n g k most : Nat} {keep : Bool} {u : Value} (h : Sk w s n g k most keep u) {p : Addr} (hne : p.block ≠ s) (v : Value) : Sk (w.setCell p v) s n g k most keep u := Row.far h hne v
theorem Sk.count {w : World} {s n g k most : Nat} {keep : Bool} {u : Value} (h : Sk w s n g k most keep u) (j : Nat) : Sk (w.setCell ⟨s, 2, none⟩ (.int .i64 j)) s n g j most keep u := Row.set h 2 (.int .i64 j)
theorem Sk.incr {w : World} {s n g k most : Nat} {keep : Bool} {u : Value} (h : Sk w s n g k most keep u) : Sk (w.setCell ⟨s, 2, none⟩ (.int .i64 ((k : Int) + 1))) s n g (k + 1) most keep u := by
  have := h.count (k + 1)
  have e : ((k + 1 : Nat) : Int) = (k : Int) + 1 := by omega
  rw [e] at this; exact this
theorem Sk.found {w : World} {s n g k most : Nat} {keep : Bool} {u : Value} (h : Sk w s n g k most keep u) (v : Value) : Sk (w.setCell ⟨s, 5, none⟩ v) s n g k most keep v := Row.set h 5 v
/-- u is a row of its own of the headers of lists of blocks that are rows of their own -/
def LBq (w : World) (base : Nat) (u : Value) (F : List (List Blk)) : Prop :=
  ∃ vs, w.ownsRow base 28 1 u F.length vs ∧ ∀ k, k < F.length → ∃ h, vs[k]? = some h ∧ OB w base h (nthB F k)
theorem LBq.below {w w' : World} {base : Nat} {u : Value} {F : List (List Blk)} (h : LBq w base u F) (hb : Below w.heap.size w w') : LBq w' base u F := by
  obtain ⟨vs, ho, hi⟩ := h
  refine ⟨vs, own_below ho hb, fun k hk => ?_⟩
  obtain ⟨r, h1, h2⟩ := hi k hk
  exact ⟨r, h1, h2.below hb⟩
theorem LBq.slice {w : World} {base : Nat} {u : Value} {F : List (List Blk)} (h : LBq w base u F) : ∃ A c, u = .slice A F.length c := by obtain ⟨vs, ho, _⟩ := h; exact own_slice ho
theorem LBq.lt {w : World} {base : Nat} {u : Value} {F : List (List Blk)} (h : LBq w base u F) : ∀ b, u.ownBlock = some b → base ≤ b ∧ b < w.heap.size := by obtain ⟨vs, ho, _⟩ := h; exact fun b e => ho.lt b e
/-- a write into a block of another type -/
theorem LBq.kept {w w' : World} {base s : Nat} {ts : TypeId} {u : Value} {F : List (List Blk)} (h : LBq w base u F) (hg : w.grownBy w' (some s)) (hs : ∃ cur, Row w s ts cur) (h1 : (28 : TypeId) ≠ ts) (h2 : (99 : TypeId) ≠ ts) : LBq w' base u F := by
  obtain ⟨vs, ho, hi⟩ := h
  refine ⟨vs, World.ownsRow.kept ho hg (.inr (own_typed ho hs h1)), fun k hk => ?_⟩
  obtain ⟨r, e1, e2⟩ := hi k hk
  exact ⟨r, e1, World.ownsRow.kept e2 hg (.inr (own_typed e2 hs h2))⟩
/-- one list more -/
theorem LBq.push {w : World} {base : Nat} {u : Value} {F : List (List Blk)} (h : LBq w base u F) : ∃ vs, w.ownsRow base 28 1 u F.length vs ∧ ∀ (w1 w2 : World) (r v2 : Value) (L : List Blk), Below w.heap.size w w1 → OB w1 base r L →
    ∀ w1', Below w1.heap.size w1 w1' → w1'.grownBy w2 u.ownBlock → w2.ownsRow base 28 1 v2 (F.length + 1) (vs ++ [r]) → LBq w2 base v2 (F ++ [L]) := by
  obtain ⟨vs, ho, hi⟩ := h
  have hvl : vs.length = F.length := by simpa using ho.1
  refine ⟨vs, ho, fun w1 w2 r v2 L hb hr w1' hb' hg hown => ?_⟩
  have ho1 := own_below (own_below ho hb) hb'
  refine ⟨vs ++ [r], by rw [List.length_append]; exact hown, fun k hk => ?_⟩
  rw [List.length_append, List.length_singleton] at hk
  by_cases e : k = F.length
  · subst e
    refine ⟨r, by rw [← hvl]; simp, ?_⟩
    rw [nthB_last]
    exact own_zone2 (own_below hr hb') fun b e hb3 => hg.block b hb3 fun e2 => own_apart ho1 (own_below hr hb') (by decide) b e e2.symm
  · obtain ⟨x, e1, e2⟩ := hi k (by omega)
    refine ⟨x, by rw [List.getElem?_append_left (by omega)]; exact e1, ?_⟩
    rw [nthB_app (by omega)]
    have e3 := own_below (own_below e2 hb) hb'
    exact own_zone2 e3 fun b e hb3 => hg.block b hb3 fun e4 => own_apart ho1 e3 (by decide) b e e4.symm
/-- a list of a list, to be read -/
theorem LBq.rd {w : World} {base : Nat} {A : Option Addr} {m c : Nat} {F : List (List Blk)} (h : LBq w base (.slice A m c) F) {k : Nat} (hk : k < F.length) :
    ∃ g B d, A = some ⟨g, 0, none⟩ ∧ g < w.heap.size ∧ w.cell? ⟨g, k, none⟩ = some (.slice B (nthB F k).length d) ∧ Bl w B (nthB F k) := by
  obtain ⟨vs, ho, hi⟩ := h
  obtain ⟨r, e1, e2⟩ := hi k hk
  obtain ⟨B, d, rfl⟩ := own_slice e2
  rcases ho.2 with ⟨_, hn⟩ | ⟨g, cap, cur, hv, hge, hg, hnc, _, hcs, htk⟩
  · omega
  · simp only [Value.slice.injEq] at hv
    refine ⟨g, B, d, hv.1, Row.lt (w := w) (t := 28) (cur := cur) hg, ?_, OB.bl e2⟩
    rw [Row.cell (w := w) (t := 28) (cur := cur) hg, ← Array.getElem?_toList, ← e1, ← htk, List.getElem?_take_of_lt (by omega)]
/-- what a search leaves: but for its own block s, the used pairs g and the row of v, all is as it was -/
structure Gk (w w' : World) (s g : Nat) (v u : Value) : Prop where
  os : w'.os = w.os
  tape : w'.tape = w.tape
  output : w'.output = w.output
  size : w.heap.size ≤ w'.heap.size
  block : ∀ k, k < w.heap.size → k ≠ s → k ≠ g → v.ownBlock ≠ some k → w'.heap[k]? = w.heap[k]?
  at_ : u.ownBlock = v.ownBlock ∨ ∃ b, u.ownBlock = some b ∧ w.heap.size ≤ b
theorem Gk.refl (w : World) (s g : Nat) (v : Value) : Gk w w s g v v := ⟨rfl, rfl, rfl, Nat.le_refl _, fun _ _ _ _ _ => rfl, .inl rfl⟩
theorem Gk.join {w a b : World} {s g : Nat} {v u x : Value} (h : Gk w a s g v u) (k : Gk a b s g u x) : Gk w b s g v x := by
  refine ⟨k.os.trans h.os, k.tape.trans h.tape, k.output.trans h.output, Nat.le_trans h.size k.size, fun j hj h1 h2 h3 => ?_, ?_⟩
  · refine (k.block j (Nat.lt_of_lt_of_le hj h.size) h1 h2 ?_).trans (h.block j hj h1 h2 h3)
    rcases h.at_ with e | ⟨q, e, hq⟩
    · rw [e]; exact h3
    · rw [e]; intro e2; simp only [Option.some.injEq] at e2; omega
  · rcases k.at_ with e | ⟨q, e, hq⟩
    · rw [e]; exact h.at_
    · exact .inr ⟨q, e, Nat.le_trans h.size hq⟩
theorem Gk.grown {w a b : World} {s g : Nat} {v u x : Value} {row : Option Nat} (h : Gk w a s g v u) (k : a.grownBy b row) (hr : row = none ∨ row = some s ∨ row = some g ∨ row = u.ownBlock) (hx : x.ownBlock = u.ownBlock ∨ ∃ q, x.ownBlock = some q ∧ a.heap.size ≤ q) : Gk w b s g v x := by
  refine h.join ⟨k.os, k.tape, k.output, k.size, fun j hj h1 h2 h3 => k.block j hj ?_, hx⟩
  rcases hr with rfl | rfl | rfl | rfl
  · exact fun e => by cases e
  · exact fun e => by simp only [Option.some.injEq] at e; exact h1 e
  · exact fun e => by simp only [Option.some.injEq] at e; exact h2 e
  · exact fun e => h3 e.symm
theorem Gk.below {w a b : World} {s g : Nat} {v u : Value} (h : Gk w a s g v u) (hb : Below a.heap.size a b) : Gk w b s g v u := h.grown (grown_below hb none) (.inl rfl) (.inl rfl)
theorem Gk.out {w a : World} {s g B : Nat} {v u : Value} (h : Gk w a s g v u) (hB : B ≤ w.heap.size) (hs : B ≤ s) (hg : B ≤ g) (hv : ∀ b, v.ownBlock = some b → B ≤ b) : Below B w a :=
  ⟨h.os, h.tape, h.output, h.size, fun k hk => h.block k (by omega) (by omega) (by omega) fun e => by have := hv k e; omega⟩
/-- a row of another type stays -/
theorem Gk.ob {w a : World} {s g b0 n : Nat} {most gg kk : Nat} {keep : Bool} {x : Value} {F : Nat → Bool} {v u bl : Value} {L : List Blk} {G : List (List Blk)} {base : Nat} (h : Gk w a s g v u) (hO : OB w b0 bl L) (hS : Sk w s n gg kk most keep x) (hG : Vb w g 256 F) (hv : LBq w base v G) : OB a b0 bl L := by
  obtain ⟨vs, hvo, _⟩ := hv
  exact own_zone2 hO fun b e hb => h.block b hb (fun e2 => own_typed hO ⟨_, hS⟩ (by decide) (e2 ▸ e)) (fun e2 => own_typed hO ⟨_, hG⟩ (by decide) (e2 ▸ e)) (own_apart hvo hO (by decide) b e)
theorem step_append_blk {ops : Array Oper} {o : Oper} {a : Act} {K : Act → World → Prop} {Q : Exit → Act → World → Prop} {E : Prop} (W : World) (hgd : o.guard = none) (s x : Operand)
    (ho : o.op = .call { callee := .builtin .append, args := #[s, x], argTypes := #[28, 28] }) (base : Nat) (v : Value) (hs : a.eval s = v) (xs : List Blk) (hown : OB W base v xs) (A : Option Addr) (c : Nat) (ys : List Blk) (hx : a.eval x = .slice A ys.length c) (hb : Bl W A ys) (hlx : xs.length ≤ 1048576) (hl : ys.length ≤ 1048576) (hbase : base ≤ W.heap.size)
    (h : ∀ v9 w9, OB w9 base v9 (xs ++ ys) → W.grownBy w9 v.ownBlock → (v9.ownBlock = v.ownBlock ∨ v9.ownBlock = some W.heap.size) → K (a.put o.dst v9) w9) :
    if Region.wanted o (yielded ops a.tmps) = true then Oper.wp Try.prog o a W K Q else E := by
  obtain ⟨bi0, hbi, hbi0, hbi1, hbi2⟩ := info_parts infoBlk'
  by_cases h0 : ys = []
  · subst h0
    refine step_append_zero W hgd s x 28 ho base 99 bi0 3 Try.underlying28 hbi v xs.length (cells3' xs) hs hown A c hx (h v W (by rw [List.append_nil]; exact hown) (grown_refl _ _) (.inl rfl))
  · have hp : 0 < ys.length := List.length_pos_iff.2 h0
    obtain ⟨g, o2, hA1, hgl, _⟩ := hb.at_ hp
    subst hA1
    refine step_append_lies W hgd s x 28 ho base 99 bi0 (.agg #[.int .i64 0, .int .i64 0, .int .i64 0]) 3 24 Try.underlying28 hbi hbi0 hbi1 hbi2 rfl (by decide) v xs.length (cells3' xs) hs hown ⟨g, o2, none⟩ ys.length c (cells3' ys) hx (cells3'_len ys) (Bl.cells hb) cells3_one hp (by unfold maxLen; omega) (by omega) hbase W.heap.size rfl ?_
    intro g9 cap w9 ho9 hg9 hat _
    refine h _ w9 ?_ hg9 (hat.imp (fun e => e.symm) (fun e => by rw [e]; rfl))
    unfold OB
    rw [cells3'_app, List.length_append]; exact ho9
theorem wpList_append_blk {ops : Array Oper} {rest : List Oper} {o : Oper} {a : Act} {Q : Exit → Act → World → Prop} (W : World) (hgd : o.guard = none) (s x : Operand)
    (ho : o.op = .call { callee := .builtin .append, args := #[s, x], argTypes := #[28, 28] }) (base : Nat) (v : Value) (hs : a.eval s = v) (xs : List Blk) (hown : OB W base v xs) (A : Option Addr) (c : Nat) (ys : List Blk) (hx : a.eval x = .slice A ys.length c) (hb : Bl W A ys) (hlx : xs.length ≤ 1048576) (hl : ys.length ≤ 1048576) (hbase : base ≤ W.heap.size)
    (h : ∀ v9 w9, OB w9 base v9 (xs ++ ys) → W.grownBy w9 v.ownBlock → (v9.ownBlock = v.ownBlock ∨ v9.ownBlock = some W.heap.size) → wpList Try.prog ops Q rest (a.put o.dst v9) w9) : wpList Try.prog ops Q (o :: rest) a W := by
  refine wpList_plain hgd fun K hK => ?_
  have h2 := step_append_blk (ops := ops) (K := K) (Q := Q) (E := True) W hgd s x ho base v hs xs hown A c ys hx hb hlx hl hbase (fun v9 w9 h1 h2 h3 => hK _ _ (h v9 w9 h1 h2 h3))
  have hw : Region.wanted o (yielded ops a.tmps) = true := by simp [Region.wanted, hgd]
  rwa [if_pos hw] at h2

end Go.Proofs.Ytbknpflbafjblaa

/- Words for the program's search for renumberings in memory; conditions: none. -/
namespace Go.Proofs.Ytbknpflbafjblaa
open Go.RowKit

/-- the cells of a search: its number of points, two grids, images, used points, what is called -/
def sVal (n gx gy : Nat) (ev : Value) (to : Nat → Int) (us : Nat → Bool) (i : Nat) : Value :=
  if i = 0 then .int .i64 n else if i = 1 then .pointer (some ⟨gx, 0, none⟩) else if i = 2 then .pointer (some ⟨gy, 0, none⟩) else if i < 18 then .int .i64 (to (i - 3)) else if i < 33 then .bool (us (i - 18)) else ev
def sCells (n gx gy : Nat) (ev : Value) (to : Nat → Int) (us : Nat → Bool) : Array Value := ((List.range 34).map (sVal n gx gy ev to us)).toArray
theorem sCells_get (n gx gy : Nat) (ev : Value) (to : Nat → Int) (us : Nat → Bool) {i : Nat} (h : i < 34) : (sCells n gx gy ev to us)[i]? = some (sVal n gx gy ev to us i) := by simp [sCells, h]
theorem Gr.far {w : World} {g : Nat} {G : Nat → Int} (h : Gr w g G) {p : Addr} (hne : p.block ≠ g) (u : Value) : Gr (w.setCell p u) g G := (Below.heap_setCell w p u g (fun e => hne e.symm)).trans h

end Go.Proofs.Ytbknpflbafjblaa

/- Words for the program's search for completions in memory; conditions: none. -/
namespace Go.Proofs.Ytbknpflbafjblaa
open Go.RowKit
set_option linter.unusedSimpArgs false
set_option linter.unusedVariables false

/-- a grid has no third point at the pairs that are left -/
def GM (G : Nat → Int) (m : Nat) : Prop := ∀ a b, a < b → b < 15 → (G (a * 15 + b) = -1 ↔ m.testBit (a * 16 + b) = false)
theorem blk_good {a b p v : Nat} (hab : a < b) (hbp : b < p) (hp : p < v) : goodB v (blkN a b p) = true := by unfold goodB blkN; simp only [decide_eq_true_eq]; omega
theorem inB_nat {a b p x y : Nat} (hab : a < b) (hbp : b < p) (hxy : x < y) (hy : y < 15) (hp : p < 15) : inB (blkN a b p) x y = (prM a b p).testBit (x * 16 + y) := by
  rw [prM_bit, Bool.eq_iff_iff, inB_iff, has_iff, has_iff]
  simp only [Bool.or_eq_true, decide_eq_true_eq, blkN]
  omega
theorem GM.put {G : Nat → Int} {m a b p : Nat} (h : GM G m) (hab : a < b) (hbp : b < p) (hp : p < 15) : GM (putG G (blkN a b p) true) (m ||| prM a b p) := by
  intro x y hxy hy
  have hg := blk_good hab hbp hp
  have h2 := putG_cell G hg (p := x) (q := y) (by omega) (by omega) (by omega) true
  simp only [Int.toNat_natCast] at h2
  rw [h2, inB_nat hab hbp hxy hy hp, Nat.testBit_or]
  cases hb : (prM a b p).testBit (x * 16 + y)
  · rw [if_neg (by simp), Bool.or_false]; exact h x y hxy hy
  · rw [if_pos rfl, Bool.or_true]
    rw [← inB_nat hab hbp hxy hy hp] at hb
    have := in_third hg hb
    simp only [if_true]
    constructor
    · intro e; omega
    · intro e; cases e
theorem GM.take {G : Nat → Int} {m a b p : Nat} (h : GM G (m ||| prM a b p)) (hf : fitQ3 m a b p = true) (hab : a < b) (hbp : b < p) (hp : p < 15) : GM (putG G (blkN a b p) false) m := by
  intro x y hxy hy
  have hg := blk_good hab hbp hp
  have h2 := putG_cell G hg (p := x) (q := y) (by omega) (by omega) (by omega) false
  simp only [Int.toNat_natCast] at h2
  rw [h2, inB_nat hab hbp hxy hy hp]
  cases hb : (prM a b p).testBit (x * 16 + y)
  · rw [if_neg (by simp), h x y hxy hy, Nat.testBit_or, hb, Bool.or_false]
  · rw [if_pos rfl]
    simp only [Bool.false_eq_true, if_false, true_iff]
    obtain ⟨f1, f2, f3⟩ := fitQ3_iff.1 hf
    rw [prM_bit] at hb
    simp only [Bool.or_eq_true, decide_eq_true_eq] at hb
    rcases hb with (e | e) | e <;> rw [e] <;> assumption
theorem GM.left {G : Nat → Int} {m a b p : Nat} (h : GM G m) (hab : a < b) (hbp : b < p) (hp : p < 15) : leftB G (blkN a b p) = fitQ3 m a b p := by
  rw [Bool.eq_iff_iff, fitQ3_iff]
  unfold leftB blkN
  simp only [Int.toNat_natCast, Bool.and_eq_true, beq_iff_eq]
  rw [h a b hab (by omega), h a p (by omega) hp, h b p hbp hp, and_assoc]
theorem fr_row {v u a : Nat} (h : ∀ j, j < a * 16 → frK v u j = false) : ∀ j, j < a * 16 + (a + 1) → frK v u j = false := by
  intro j hj
  by_cases e : j < a * 16
  · exact h j e
  · rw [← Bool.not_eq_true]; unfold frK
    simp only [Bool.and_eq_true, decide_eq_true_eq]
    omega
theorem fr_next {v u a : Nat} (hv : v ≤ 15) (h : ∀ j, j < a * 16 + v → frK v u j = false) : ∀ j, j < (a + 1) * 16 → frK v u j = false := by
  intro j hj
  by_cases e : j < a * 16 + v
  · exact h j e
  · rw [← Bool.not_eq_true]; unfold frK
    simp only [Bool.and_eq_true, decide_eq_true_eq]
    omega
theorem fr_end {v u : Nat} (hv : v ≤ 15) (h : ∀ j, j < v * 16 → frK v u j = false) : nxt v u = 256 := by
  have h1 := nxt_le v u
  by_cases e : nxt v u = 256
  · exact e
  · obtain ⟨a, b, h2, h3, h4, h5⟩ := nxt_ab hv (by omega : nxt v u < 256)
    have := nxt_fr (v := v) (u := u) (by omega)
    rw [h _ (by omega)] at this; cases this
/-- what next says -/
def nxR (v u : Nat) : Nat × Nat × Bool := if nxt v u < 256 then (nxt v u / 16, nxt v u % 16, true) else (0, 0, false)
/-- the cells of a completer -/
def Cb (w : World) (cb n g : Nat) (u ev : Value) : Prop := Row w cb 168 #[.int .i64 n, .pointer (some ⟨g, 0, none⟩), u, ev]
theorem Cb.c4 {w : World} {cb n g : Nat} {u ev : Value} (h : Cb w cb n g u ev) : w.cell? ⟨cb, 0, none⟩ = some (.int .i64 n) ∧ w.cell? ⟨cb, 1, none⟩ = some (.pointer (some ⟨g, 0, none⟩)) ∧ w.cell? ⟨cb, 2, none⟩ = some u ∧ w.cell? ⟨cb, 3, none⟩ = some ev :=
  ⟨(Row.cell h 0).trans rfl, (Row.cell h 1).trans rfl, (Row.cell h 2).trans rfl, (Row.cell h 3).trans rfl⟩
theorem Cb.lt {w : World} {cb n g : Nat} {u ev : Value} (h : Cb w cb n g u ev) : cb < w.heap.size := Row.lt h
theorem Cb.frozen {w : World} {cb n g : Nat} {u ev : Value} (h : Cb w cb n g u ev) (i : Nat) : w.frozen? ⟨cb, i, none⟩ = false := Row.frozen h i
theorem Cb.below {w w' : World} {cb n g : Nat} {u ev : Value} (h : Cb w cb n g u ev) (hb : Below w.heap.size w w') : Cb w' cb n g u ev := Row.below h hb
theorem Cb.keep {w w' : World} {cb n g : Nat} {u ev : Value} (h : Cb w cb n g u ev) (e : w'.heap[cb]? = w.heap[cb]?) : Cb w' cb n g u ev := e.trans h
theorem Cb.set {w : World} {cb n g : Nat} {u ev : Value} (h : Cb w cb n g u ev) (v : Value) : Cb (w.setCell ⟨cb, 2, none⟩ v) cb n g v ev := Row.set h 2 v
theorem Cb.far {w : World} {cb n g : Nat} {u ev : Value} (h : Cb w cb n g u ev) {p : Addr} (hne : p.block ≠ cb) (v : Value) : Cb (w.setCell p v) cb n g u ev := Row.far h hne v

theorem own_zone' {w w' : World} {base size n : Nat} {t : TypeId} {v : Value} {xs : List Value} (h : w.ownsRow base t size v n xs) (hz : ∀ k, v.ownBlock = some k → k < w.heap.size → w'.heap[k]? = w.heap[k]?) : w'.ownsRow base t size v n xs := by
  refine ⟨h.1, ?_⟩
  rcases h.2 with h' | ⟨g, cap, cur, hv, hg, hR, r⟩
  · exact .inl h'
  · exact .inr ⟨g, cap, cur, hv, hg, (hz g (by rw [hv]; rfl) (Row.lt hR)).trans hR, r⟩

end Go.Proofs.Ytbknpflbafjblaa

/- The contract of the program's search for the next pair that is left; conditions: stated in it. -/
namespace Go.Proofs.Ytbknpflbafjblaa
open Go.RowKit
set_option maxHeartbeats 1000000
set_option maxRecDepth 100000
set_option linter.unusedSimpArgs false
set_option linter.unusedVariables false

theorem next_any (cb n g : Nat) (u ev : Value) (G : Nat → Int) (m a0 : Nat) (w : World) (hC : Cb w cb n g u ev) (hG : Gr w g G) (hM : GM G m) (hn : n ≤ 15) (ha : a0 ≤ n) (hlow : ∀ j, j < a0 * 16 → frK n m j = false) :
    Calls Try.prog 178 #[.pointer (some ⟨cb, 0, none⟩), .int .i64 (a0 : Int)] w fun e w' => e = .returned (.tuple #[.int .i64 ((nxR n m).1 : Nat), .int .i64 ((nxR n m).2.1 : Nat), .bool (nxR n m).2.2]) ∧ Below w.heap.size w w' := by
  have HC := Lib.hid hC; have HG := Lib.hid hG; have HM := Lib.hid hM; have HL := Lib.hid hlow
  have HR : Hid (nxR n m = if nxt n m < 256 then (nxt n m / 16, nxt n m % 16, true) else (0, 0, false)) := rfl
  generalize nxR n m = R at *
  clear hC hG hM hlow
  go_enter Try.func178, Try.ntmps178
  go_wp2
  go_loopw [1] (fun i wr => ∃ a : Nat, a ≤ n ∧ i = .int .i64 a ∧ Hid (Below w.heap.size w wr ∧ ∀ j, j < a * 16 → frK n m j = false)) (fun i _ => n - (intOf i).toNat)
  case atStart => exact ⟨a0, ha, rfl, Below.refl _ _, HL.out⟩
  case round =>
    obtain ⟨a, ha, rfl, HD⟩ := hrel
    have hCw := HC.out.below HD.out.1
    obtain ⟨c0, c1, c2, c3⟩ := hCw.c4
    have hlt := hCw.lt
    clear hCw
    by_cases han : a < n
    · go_wp2
      obtain ⟨wo, rfl⟩ : ∃ wo : World, wo = wr := ⟨_, rfl⟩
      clear c0 c1 c2 c3 hlt
      go_loopw [7] (fun i wr => ∃ b : Nat, a + 1 ≤ b ∧ b ≤ n ∧ i = .int .i64 b ∧ Hid (Below w.heap.size w wr ∧ ∀ j, j < a * 16 + b → frK n m j = false)) (fun i _ => n - (intOf i).toNat)
      case atStart => exact ⟨a + 1, by omega, by omega, by go_num, HD.out.1, fr_row HD.out.2⟩
      case round =>
        obtain ⟨b, hb1, hb2, rfl, HE⟩ := hrel
        have hCw := HC.out.below HE.out.1
        obtain ⟨c0, c1, c2, c3⟩ := hCw.c4
        have hlt := hCw.lt
        have hGw := HG.out.below HE.out.1
        have hgl := hGw.lt
        by_cases hbn : b < n
        · have p1 := hGw.cell (i := a * 15 + b) (by omega)
          have i1 : (a : Int) < 15 := by omega
          have i2 : (b : Int) < 15 := by omega
          have i3 : a < 15 := by omega
          have i4 : b < 15 := by omega
          have HI := Lib.hid (HM.out a b (by omega) (by omega))
          generalize G (a * 15 + b) = x at *
          clear hCw hGw
          by_cases hx : x = -1
          · subst hx
            go_wp2
            go_ret3
            have hf : frK n m (a * 16 + b) = true := (fr_iff (by omega)).2 ⟨by omega, by omega, by have := HI.out; simpa using this⟩
            have hnx : nxt n m = a * 16 + b := nxt_is (by omega) hf HE.out.2
            have e1 : (a * 16 + b) / 16 = a := by omega
            have e2 : (a * 16 + b) % 16 = b := by omega
            refine ⟨?_, HE.out.1⟩
            rw [HR.out, hnx, if_pos (by omega), e1, e2]; rfl
          · have hx' : (x == -1) = false := by simpa using hx
            have HX := Lib.hid hx; clear hx
            go_wp2
            go_roundw
            case rel =>
              refine ⟨b + 1, by omega, by omega, by go_num, HE.out.1, fun j hj => ?_⟩
              by_cases e : j < a * 16 + b
              · exact HE.out.2 j e
              · obtain rfl : j = a * 16 + b := by omega
                rw [← Bool.not_eq_true, fr_iff (by omega)]
                intro h; exact HX.out (HI.out.2 h.2.2)
            case measure => simp [intOf]; omega
        · obtain rfl : b = n := by omega
          clear hCw hGw
          go_wp2
          go_roundw
          case rel => exact ⟨a + 1, by omega, by go_num, HE.out.1, fr_next hn HE.out.2⟩
          case measure => simp [intOf]; omega
    · obtain rfl : a = n := by omega
      go_wp2
      go_ret3
      have hnx := fr_end hn HD.out.2
      refine ⟨?_, HD.out.1⟩
      rw [HR.out, hnx, if_neg (by omega)]; rfl

end Go.Proofs.Ytbknpflbafjblaa

/- The contract of the program's search for completions; conditions: stated in it. -/
namespace Go.Proofs.Ytbknpflbafjblaa
open Go.RowKit
set_option maxHeartbeats 2000000
set_option maxRecDepth 100000
set_option linter.unusedSimpArgs false
set_option linter.unusedVariables false

/-- what is asked of what a search calls; C: the finds so far, S: the blocks that hold them -/
structure EachC (B cb g n : Nat) (f : Nat) (fa la : Array Value) (cont : List (List Blk) → Bool) (Inv : List (List Blk) → (Nat → Prop) → World → Prop) (V : List Blk → Prop) (N : Nat) : Prop where
  eg : ∀ args w, (callFunc f args).run Try.prog w = .ok (.enter f args) w
  stab : ∀ C S w w' row, Inv C S w → w.grownBy w' row → (∀ k, row = some k → ¬ S k ∧ B ≤ k) → Inv C S w'
  lt : ∀ C S w k, Inv C S w → S k → k < w.heap.size
  call : ∀ C S L W A c, V L → C.length < N → (C = [] ∨ cont C = true) → Inv C S W → B ≤ W.heap.size → Bl W A L → 
    Calls Try.prog f (fa ++ #[.slice A L.length c] ++ la) W fun e w' => e = .returned (.bool (cont (C ++ [L]))) ∧ ∃ S', Inv (C ++ [L]) S' w' ∧ W.heap.size ≤ w'.heap.size ∧ (∀ k, k < W.heap.size → S' k → S k) ∧ ∀ k, k < W.heap.size → B ≤ k → ¬ S k → w'.heap[k]? = W.heap[k]?

/-- what a search leaves as it was -/
structure KeptC (B : Nat) (w w' : World) (S S' : Nat → Prop) (cb g : Nat) (u u' : Value) : Prop where
  size : w.heap.size ≤ w'.heap.size
  set : ∀ k, k < w.heap.size → S' k → S k
  heap : ∀ k, k < w.heap.size → B ≤ k → ¬ S k → k ≠ cb → k ≠ g → u.ownBlock ≠ some k → w'.heap[k]? = w.heap[k]?
  row : u'.ownBlock = u.ownBlock ∨ ∃ q, u'.ownBlock = some q ∧ w.heap.size ≤ q
theorem KeptC.refl (B : Nat) (w : World) (S : Nat → Prop) (cb g : Nat) (u : Value) : KeptC B w w S S cb g u u := ⟨Nat.le_refl _, fun _ _ h => h, fun _ _ _ _ _ _ _ => rfl, .inl rfl⟩
theorem KeptC.trans {B : Nat} {w w1 w2 : World} {S S1 S2 : Nat → Prop} {cb g : Nat} {u u1 u2 : Value} (h : KeptC B w w1 S S1 cb g u u1) (k : KeptC B w1 w2 S1 S2 cb g u1 u2) : KeptC B w w2 S S2 cb g u u2 := by
  have hz := h.size
  refine ⟨Nat.le_trans h.size k.size, fun j hj hS => h.set j hj (k.set j (by omega) hS), fun j hj hB hS h1 h2 h3 => ?_, ?_⟩
  · refine (k.heap j (by omega) hB (fun e => hS (h.set j hj e)) h1 h2 ?_).trans (h.heap j hj hB hS h1 h2 h3)
    rcases h.row with e | ⟨q, e, hq⟩
    · rw [e]; exact h3
    · rw [e]; intro e2; simp only [Option.some.injEq] at e2; omega
  · rcases k.row with e | ⟨q, e, hq⟩
    · rw [e]; exact h.row
    · exact .inr ⟨q, e, by omega⟩
theorem KeptC.grown {B : Nat} {w w1 w2 : World} {S S1 : Nat → Prop} {cb g : Nat} {u u1 : Value} (h : KeptC B w w1 S S1 cb g u u1) {row : Option Nat} (k : w1.grownBy w2 row) (hr : row = none ∨ row = some cb ∨ row = some g ∨ row = u1.ownBlock) : KeptC B w w2 S S1 cb g u u1 := by
  refine h.trans ⟨k.size, fun _ _ e => e, fun j hj _ _ h1 h2 h3 => k.block j hj ?_, .inl rfl⟩
  rcases hr with rfl | rfl | rfl | rfl
  · exact fun e => by cases e
  · exact fun e => by simp only [Option.some.injEq] at e; exact h1 e
  · exact fun e => by simp only [Option.some.injEq] at e; exact h2 e
  · exact fun e => h3 e.symm
theorem OB.cut {w : World} {B : Nat} {A : Option Addr} {n c : Nat} {L : List Blk} {x : Blk} (h : OB w B (.slice A n c) (L ++ [x])) : OB w B (.slice A L.length c) L ∧ L.length + 1 ≤ c ∧ ∃ g, A = some ⟨g, 0, none⟩ := by
  unfold OB at *
  rw [cells3'_app, List.length_append, List.length_singleton] at h
  have hl := h.1
  rcases h.2 with ⟨_, hn⟩ | ⟨g, cap, cur, hv, hge, hg, hnc, hcap, hcs, htk⟩
  · omega
  · simp only [Value.slice.injEq] at hv
    obtain ⟨rfl, rfl, rfl⟩ := hv
    refine ⟨⟨cells3'_len L, .inr ⟨g, c, cur, rfl, hge, hg, by omega, hcap, hcs, ?_⟩⟩, hnc, g, rfl⟩
    have h3 : (cur.toList.take ((L.length + 1) * 3)).take (L.length * 3) = (cells3' L ++ cells3' [x]).take (L.length * 3) := by rw [htk]
    rw [List.take_take, Nat.min_eq_left (by omega), List.take_left' (cells3'_len L)] at h3
    exact h3

theorem loopG_mono {α : Type} {f : Nat → List α} {p : Nat → Bool} {a k : Nat} : ∀ n, k ≤ n → (loopG f p a k).length ≤ (loopG f p a n).length := by
  intro n
  induction n with
  | zero => intro h; obtain rfl : k = 0 := by omega
            exact Nat.le_refl _
  | succ n ih =>
    intro h
    by_cases e : k = n + 1
    · subst e; exact Nat.le_refl _
    · have := ih (by omega); rw [loopG, List.length_append]; omega
theorem runG_len {α : Type} (cont : List α → Bool) : ∀ (A C : List α), (runG cont A C).1.length ≤ C.length + A.length := by
  intro A
  induction A with
  | nil => intro C; simp [runG]
  | cons L A ih =>
    intro C
    rw [runG]
    split
    · have := ih (C ++ [L]); simp at this ⊢; omega
    · simp
theorem from_zero (B cb g n f : Nat) (fa la : Array Value) (cont : List (List Blk) → Bool) (Inv : List (List Blk) → (Nat → Prop) → World → Prop) (V : List Blk → Prop) (N : Nat) (hE : EachC B cb g n f fa la cont Inv V N) (hn : n ≤ 15) (m : Nat) (L : List Blk) (C : List (List Blk)) (S : Nat → Prop) (u : Value) (G : Nat → Int) (a0 : Nat) (w : World)
    (hc : cntC n m = 0) (ha : a0 ≤ n) (hlow : ∀ j, j < a0 * 16 → frK n m j = false) (hV : V L) (hN : C.length < N) (hgo : C = [] ∨ cont C = true) (hI : Inv C S w) (hC : Cb w cb n g u (.func (.func f) fa la)) (hG : Gr w g G) (hM : GM G m) (hO : OB w B u L) (hS1 : ¬ S cb) (hS2 : ¬ S g) (hB1 : B ≤ cb) (hB2 : B ≤ g) (hS3 : ∀ b, u.ownBlock = some b → ¬ S b) (hBw : B ≤ w.heap.size) :
    Calls Try.prog 168 #[.pointer (some ⟨cb, 0, none⟩), .int .i64 (a0 : Int)] w fun e w' => ∃ C' S' fl u' G', e = .returned (.bool fl) ∧ runG cont (enumC n 0 m L) C = (C', fl) ∧ Inv C' S' w' ∧ Cb w' cb n g u' (.func (.func f) fa la) ∧ Gr w' g G' ∧ GM G' m ∧ OB w' B u' L ∧ (∀ b, u'.ownBlock = some b → ¬ S' b) ∧ KeptC B w w' S S' cb g u u' := by
  have eg := hE.eg
  have HE := Lib.hid hE; have HI := Lib.hid hI; have HC := Lib.hid hC; have HG := Lib.hid hG; have HM := Lib.hid hM; have HO := Lib.hid hO; have HV := Lib.hid hV; have HL := Lib.hid hlow; have HNN := Lib.hid hN
  have HS := Lib.hid (And.intro hS1 (And.intro hS2 hS3))
  have HNX : Hid (nxR n m = (0, 0, false)) := by unfold Hid nxR; rw [cntC_zero.1 hc]; rfl
  clear hE hI hC hG hM hO hV hS1 hS2 hS3 hlow hN
  go_enter Try.func168, Try.ntmps168
  go_wp2_with fail
  refine (next_any cb n g u (.func (.func f) fa la) G m a0 _ HC.out HG.out HM.out hn ha HL.out).mono ?_
  rw [HNX.out]
  rintro e w1 ⟨rfl, hb⟩
  have HB1 := Lib.hid hb; clear hb
  obtain ⟨A, c, rfl⟩ := own_slice HO.out
  obtain ⟨c0, c1, c2, c3⟩ := (HC.out.below HB1.out).c4
  have hcl := (HC.out.below HB1.out).lt
  go_wp2
  go_still_tail 8, (by kernel_rfl)
  change wpList _ _ _ _ _ w1.drew
  have HB2 := Lib.hid (below_up HB1.out (below_drew w1))
  generalize w1.drew = w2 at *
  clear c0 c1 c2 c3 hcl
  obtain ⟨c0, c1, c2, c3⟩ := (HC.out.below HB2.out).c4
  have hcl := (HC.out.below HB2.out).lt
  have HI2 : Hid (Inv C S w2) := HE.out.stab _ _ _ _ none HI.out (grown_below HB2.out none) (fun k e => by cases e)
  have hz2 := HB2.out.size
  go_wp2_with fail
  refine (HE.out.call C S L w2 A c HV.out HNN.out hgo HI2.out (by omega) (OB.bl (HO.out.below HB2.out))).mono ?_
  rintro e w3 ⟨rfl, S', hI3, hs3, hss, hk3⟩
  have HI3 := Lib.hid hI3; have HSS := Lib.hid hss; have HK3 := Lib.hid hk3
  clear hI3 hss hk3
  go_wp2
  go_ret
  have hC2 := HC.out.below HB2.out
  have hG2 := HG.out.below HB2.out
  have hO2 := HO.out.below HB2.out
  refine ⟨C ++ [L], S', cont (C ++ [L]), .slice A L.length c, G, rfl, runG_one _ _ _, HI3.out, hC2.keep (HK3.out _ hC2.lt hB1 HS.out.1), (HK3.out _ hG2.lt hB2 HS.out.2.1).trans hG2, HM.out, ?_, ?_, ?_⟩
  · refine own_zone' hO2 fun k hk1 hk2 => HK3.out k hk2 (own_block hO2 k hk1) (HS.out.2.2 k hk1)
  · intro b hb hSb
    exact HS.out.2.2 b hb (HSS.out b (hO2.lt b hb).2 hSb)
  · refine ⟨by omega, fun k hk hS => HSS.out k (by omega) hS, fun k hk h1 h2 h3 h4 h5 => ?_, .inl rfl⟩
    exact (HK3.out k (by omega) h1 h2).trans (HB2.out.block k hk)

theorem Row.c3 {w : World} {g : Nat} {t : TypeId} {x y z : Value} (h : Row w g t #[x, y, z]) : w.cell? ⟨g, 0, none⟩ = some x ∧ w.cell? ⟨g, 1, none⟩ = some y ∧ w.cell? ⟨g, 2, none⟩ = some z := ⟨(Row.cell h 0).trans rfl, (Row.cell h 1).trans rfl, (Row.cell h 2).trans rfl⟩
theorem left_is {g a b p : Nat} {G : Nat → Int} {r : Bool} {w : World} (h : leftB G (blkN a b p) = r) (hab : a < b) (hbp : b < p) (hp : p < 15) (hG : Gr w g G) :
    Calls Try.prog 98 #[.pointer (some ⟨g, 0, none⟩), .agg #[.int .i64 (a : Int), .int .i64 (b : Int), .int .i64 (p : Int)]] w fun e w' => e = .returned (.bool r) ∧ Below w.heap.size w w' := h ▸ isLeft_any g G (blkN a b p) w hG (blk_good hab hbp hp)
theorem Cb.grown {w w' : World} {cb n g : Nat} {u ev : Value} {row : Option Nat} (h : Cb w cb n g u ev) (hg : w.grownBy w' row) (hne : row ≠ some cb) : Cb w' cb n g u ev := Row.grown h hg hne
theorem Gr.grown {w w' : World} {g : Nat} {G : Nat → Int} {row : Option Nat} (h : Gr w g G) (hg : w.grownBy w' row) (hne : row ≠ some g) : Gr w' g G := (hg.block g h.lt (fun e => hne e.symm)).trans h
theorem put_is (is : Bool) (g a b p : Nat) (G : Nat → Int) (w : World) (hG : Gr w g G) (hab : a < b) (hbp : b < p) (hp : p < 15) :
    Calls Try.prog 99 #[.pointer (some ⟨g, 0, none⟩), .agg #[.int .i64 (a : Int), .int .i64 (b : Int), .int .i64 (p : Int)], .bool is] w fun e w' => e = .returned (.tuple #[]) ∧ Gr w' g (putG G (blkN a b p) is) ∧ w.grownBy w' (some g) := by
  cases is
  · exact put_false g G (blkN a b p) w hG (blk_good hab hbp hp)
  · exact put_true g G (blkN a b p) w hG (blk_good hab hbp hp)
theorem from_comp (B cb g n f : Nat) (fa la : Array Value) (cont : List (List Blk) → Bool) (Inv : List (List Blk) → (Nat → Prop) → World → Prop) (V : List Blk → Prop) (N : Nat) (hE : EachC B cb g n f fa la cont Inv V N) (hn : n ≤ 15) (hcg : cb ≠ g) (hB1 : B ≤ cb) (hB2 : B ≤ g) :
    ∀ (d m : Nat) (L : List Blk) (C : List (List Blk)) (S : Nat → Prop) (u : Value) (G : Nat → Int) (a0 : Nat) (w : World), cntC n m = 3 * d → a0 ≤ n → (∀ j, j < a0 * 16 → frK n m j = false) → (∀ M ∈ enumC n d m L, V M) → C.length + (enumC n d m L).length ≤ N → L.length + d ≤ 1000 → (C = [] ∨ cont C = true) → Inv C S w → Cb w cb n g u (.func (.func f) fa la) → Gr w g G → GM G m → OB w B u L → ¬ S cb → ¬ S g → (∀ b, u.ownBlock = some b → ¬ S b) → B ≤ w.heap.size →
    Calls Try.prog 168 #[.pointer (some ⟨cb, 0, none⟩), .int .i64 (a0 : Int)] w fun e w' => ∃ C' S' fl u' G', e = .returned (.bool fl) ∧ runG cont (enumC n d m L) C = (C', fl) ∧ Inv C' S' w' ∧ Cb w' cb n g u' (.func (.func f) fa la) ∧ Gr w' g G' ∧ GM G' m ∧ OB w' B u' L ∧ (∀ b, u'.ownBlock = some b → ¬ S' b) ∧ KeptC B w w' S S' cb g u u' := by
  intro d
  induction d with
  | zero =>
    intro m L C S u G a0 w hc ha hlow hV hN hl hgo hI hC hG hM hO hS1 hS2 hS3 hBw
    exact from_zero B cb g n f fa la cont Inv V N hE hn m L C S u G a0 w (by omega) ha hlow (hV L (by rw [enumC]; simp)) (by rw [enumC, List.length_singleton] at hN; omega) hgo hI hC hG hM hO hS1 hS2 hB1 hB2 hS3 hBw
  | succ d ih =>
    intro m L C S u G a0 w hc ha hlow hV hN hl hgo hI hC hG hM hO hS1 hS2 hS3 hBw
    have HIH := Lib.hid ih; clear ih
    have hlt : nxt n m < 256 := by
      have := nxt_le n m
      by_cases e : nxt n m = 256
      · have := cntC_zero.2 e; omega
      · omega
    obtain ⟨a, b, hnx, hab, hbn, hbit⟩ := nxt_ab hn hlt
    have HNX : Hid (nxR n m = (a, b, true)) := by unfold Hid nxR; rw [if_pos hlt, hnx]; have e1 : (a * 16 + b) / 16 = a := (by omega); have e2 : (a * 16 + b) % 16 = b := (by omega); rw [e1, e2]
    have HLOW : Hid (∀ j, j < a * 16 + b → frK n m j = false) := fun j hj => nxt_min (by omega)
    have HEN : Hid (enumC n (d + 1) m L = loopG (fun p => enumC n d (m ||| prM a b p) (L ++ [blkN a b p])) (fun p => fitQ3 m a b p) (b + 1) n) := enumC_succ d L (by omega) hnx
    have HST : Hid (∀ i, loopG (fun p => enumC n d (m ||| prM a b p) (L ++ [blkN a b p])) (fun p => fitQ3 m a b p) (b + 1) (i + 1) = loopG (fun p => enumC n d (m ||| prM a b p) (L ++ [blkN a b p])) (fun p => fitQ3 m a b p) (b + 1) i ++ (if b + 1 ≤ i ∧ fitQ3 m a b i = true then enumC n d (m ||| prM a b i) (L ++ [blkN a b i]) else [])) := fun i => rfl
    have HSTOP : Hid (∀ k D, runG cont (loopG (fun p => enumC n d (m ||| prM a b p) (L ++ [blkN a b p])) (fun p => fitQ3 m a b p) (b + 1) k) C = (D, false) → k ≤ n → runG cont (loopG (fun p => enumC n d (m ||| prM a b p) (L ++ [blkN a b p])) (fun p => fitQ3 m a b p) (b + 1) n) C = (D, false)) := fun k D h hk => runG_stop h n hk
    have HZ : Hid (loopG (fun p => enumC n d (m ||| prM a b p) (L ++ [blkN a b p])) (fun p => fitQ3 m a b p) (b + 1) (b + 1) = []) := loopG_nil _ _ _ _ (Nat.le_refl _)
    have HVM : Hid (∀ p, b + 1 ≤ p → p < n → fitQ3 m a b p = true → ∀ M ∈ enumC n d (m ||| prM a b p) (L ++ [blkN a b p]), V M) := fun p h1 h2 h3 M hM => hV M (by rw [HEN.out, loopG_mem]; exact ⟨p, h1, h2, h3, hM⟩)
    have HNB : Hid (C.length + (loopG (fun p => enumC n d (m ||| prM a b p) (L ++ [blkN a b p])) (fun p => fitQ3 m a b p) (b + 1) n).length ≤ N) := by unfold Hid; rw [← HEN.out]; exact hN
    have HMONO : Hid (∀ k, k ≤ n → (loopG (fun p => enumC n d (m ||| prM a b p) (L ++ [blkN a b p])) (fun p => fitQ3 m a b p) (b + 1) k).length ≤ (loopG (fun p => enumC n d (m ||| prM a b p) (L ++ [blkN a b p])) (fun p => fitQ3 m a b p) (b + 1) n).length) := fun k hk => loopG_mono n hk
    have HCNT : Hid (∀ p, b + 1 ≤ p → p < n → fitQ3 m a b p = true → cntC n (m ||| prM a b p) = 3 * d) := fun p h1 h2 h3 => by have := cntC_put hn hab h1 h2 h3; omega
    have HE := Lib.hid hE; have HI := Lib.hid hI; have HC := Lib.hid hC; have HG := Lib.hid hG; have HM := Lib.hid hM; have HO := Lib.hid hO; have HL := Lib.hid hlow
    have HS := Lib.hid (And.intro hS1 (And.intro hS2 hS3))
    have HGO := Lib.hid hgo
    clear hE hI hC hG hM hO hS1 hS2 hS3 hlow hV hN hc hgo
    generalize loopG (fun p => enumC n d (m ||| prM a b p) (L ++ [blkN a b p])) (fun p => fitQ3 m a b p) (b + 1) = SQ at *
    have HHLT := Lib.hid hlt; have HHNX := Lib.hid hnx; have HBIT := Lib.hid hbit
    clear hlt hnx hbit
    go_enter Try.func168, Try.ntmps168
    go_wp2_with fail
    refine (next_any cb n g u (.func (.func f) fa la) G m a0 _ HC.out HG.out HM.out hn ha HL.out).mono ?_
    rw [HNX.out]
    rintro e w1 ⟨rfl, hb⟩
    have HB1 := Lib.hid hb; clear hb
    obtain ⟨A, c, rfl⟩ := own_slice HO.out
    go_wp2
    have HK0 : Hid (KeptC B w w1 S S cb g (.slice A L.length c) (.slice A L.length c)) := (KeptC.refl B w S cb g _).grown (grown_below HB1.out none) (.inl rfl)
    have HI1 : Hid (Inv C S w1) := HE.out.stab _ _ _ _ none HI.out (grown_below HB1.out none) (fun k e => by cases e)
    go_loopw [7] (fun i wr => ∃ (k : Nat) (C' : List (List Blk)) (S' : Nat → Prop) (u' : Value) (G' : Nat → Int), b + 1 ≤ k ∧ k ≤ n ∧ i = .int .i64 k ∧ Hid (runG cont (SQ k) C = (C', true) ∧ Inv C' S' wr ∧ Cb wr cb n g u' (.func (.func f) fa la) ∧ Gr wr g G' ∧ GM G' m ∧ OB wr B u' L ∧ (∀ b, u'.ownBlock = some b → ¬ S' b) ∧ KeptC B w wr S S' cb g (.slice A L.length c) u')) (fun i _ => n - (intOf i).toNat)
    case atStart => exact ⟨b + 1, C, S, _, G, by omega, by omega, by go_num, by rw [HZ.out]; rfl, HI1.out, HC.out.below HB1.out, HG.out.below HB1.out, HM.out, HO.out.below HB1.out, HS.out.2.2, HK0.out⟩
    case round =>
      obtain ⟨k, C', S', u', G', hk1, hk2, rfl, HD⟩ := hrel
      obtain ⟨hrun, hI, hC, hG, hM, hO, hS3, hK⟩ := HD.out
      have HRUN := Lib.hid hrun; have HIw := Lib.hid hI; have HCw := Lib.hid hC; have HGw := Lib.hid hG; have HMw := Lib.hid hM; have HOw := Lib.hid hO; have HSw := Lib.hid hS3; have HKw := Lib.hid hK
      obtain ⟨c0, c1, c2, c3⟩ := hC.c4
      have hcl := hC.lt
      clear hrun hI hC hG hM hO hS3 hK HD
      by_cases hkn : k < n
      · obtain ⟨A', c', rfl⟩ := own_slice HOw.out
        have HBX := Lib.hid (Row.new wr 99 #[.int .i64 (a : Int), .int .i64 (b : Int), .int .i64 (k : Int)])
        have HBa := Lib.hid (below_alloc wr (.cells #[.int .i64 (a : Int), .int .i64 (b : Int), .int .i64 (k : Int)] 99))
        have HZW : Hid ((wr.alloc (.cells #[.int .i64 (a : Int), .int .i64 (b : Int), .int .i64 (k : Int)] 99)).heap.size = wr.heap.size + 1) := World.size_alloc _ _
        go_wp2
        clear c0 c1 c2 c3 hcl
        generalize wr.alloc _ = w2 at *
        obtain ⟨c0, c1, c2, c3⟩ := (HCw.out.below HBa.out).c4
        obtain ⟨x0, x1, x2⟩ := HBX.out.c3
        have hxl := HBX.out.lt
        have hcl := (HCw.out.below HBa.out).lt
        have HFIT := Lib.hid (HMw.out.left hab (by omega : b < k) (by omega : k < 15))
        have hkb : b + 1 ≤ k := hk1
        cases hf : fitQ3 m a b k
        · rw [hf] at HFIT
          refine wp_region_ge_lit (by kernel_rfl) (by kernel_rfl) ?_; (repeat (go_big_quiet_step ((go_at_call 98; exact ge_call (left_is HFIT.out (by omega) (by omega) (by omega) (HGw.out.below (below_up HBa.out (ge_below _ _)))))))); refine wpQuiet_nil ?_
          rintro w3 ⟨x, rfl⟩
          have HB3 := Lib.hid (below_up HBa.out (ge_below w2 x))
          go_wp2
          go_roundw
          case rel =>
            refine ⟨k + 1, C', S', _, G', by omega, by omega, by go_num, ?_, ?_, HCw.out.below HB3.out, HGw.out.below HB3.out, HMw.out, HOw.out.below HB3.out, HSw.out, HKw.out.grown (grown_below HB3.out none) (.inl rfl)⟩
            · rw [HST.out k, if_neg (by rw [hf]; simp), List.append_nil]; exact HRUN.out
            · exact HE.out.stab _ _ _ _ none HIw.out (grown_below HB3.out none) (fun k e => by cases e)
          case measure => simp [intOf]; omega
        · rw [hf] at HFIT
          refine wp_region_ge_lit (by kernel_rfl) (by kernel_rfl) ?_; (repeat (go_big_quiet_step ((go_at_call 98; exact ge_call (left_is HFIT.out (by omega) (by omega) (by omega) (HGw.out.below (below_up HBa.out (ge_below _ _)))))))); refine wpQuiet_nil ?_
          rintro w3 ⟨x, rfl⟩
          have HB3 := Lib.hid (below_up HBa.out (ge_below w2 x))
          have HBX3 := Lib.hid (HBX.out.below (ge_below w2 x))
          have HZ3 := Lib.hid (ge_below w2 x).size
          generalize ge w2 x = w3 at *
          clear c0 c1 c2 c3 x0 x1 x2 hxl hcl
          obtain ⟨c0, c1, c2, c3⟩ := (HCw.out.below HB3.out).c4
          obtain ⟨x0, x1, x2⟩ := HBX3.out.c3
          have hxl := HBX3.out.lt
          have hcl := (HCw.out.below HB3.out).lt
          have HI3 : Hid (Inv C' S' w3) := HE.out.stab _ _ _ _ none HIw.out (grown_below HB3.out none) (fun k e => by cases e)
          have HLT := Lib.hid (fun k h => HE.out.lt _ _ _ k HIw.out h)
          have HK3 := Lib.hid (HKw.out.grown (grown_below HB3.out none) (.inl rfl))
          have HC3 := Lib.hid (HCw.out.below HB3.out); have HG3 := Lib.hid (HGw.out.below HB3.out); have HO3 := Lib.hid (HOw.out.below HB3.out)
          have HGLT := Lib.hid HGw.out.lt
          have HOLT : Hid (∀ b, (Value.slice A' L.length c').ownBlock = some b → b < wr.heap.size) := fun b e => (HOw.out.lt b e).2
          have HCLT := Lib.hid HCw.out.lt
          have HNS : Hid (¬ S' cb ∧ ¬ S' g) := ⟨fun h => HS.out.1 (HKw.out.set _ HC.out.lt h), fun h => HS.out.2.1 (HKw.out.set _ HG.out.lt h)⟩
          obtain ⟨q, hq⟩ : ∃ q, q = wr.heap.size := ⟨_, rfl⟩
          rw [← hq] at x0 x1 x2 hxl HBX3 HZW HLT HGLT HCLT HOLT
          have HQ : Hid (B ≤ q) := by have := HCLT.out; unfold Hid; omega
          rw [← hq]
          clear HIw HCw HGw HOw HKw HBX HBa HB3 hq HZ3 HZW
          go_wp2
          go_still_tail 5, (by kernel_rfl)
          change wpList _ _ _ _ _ w3.drew
          replace HK3 := Lib.hid (HK3.out.grown (grown_below (below_drew w3) none) (.inl rfl))
          replace HI3 : Hid (Inv C' S' w3.drew) := HE.out.stab _ _ _ _ none HI3.out (grown_below (below_drew w3) none) (fun k e => by cases e)
          replace HC3 := Lib.hid (HC3.out.below (below_drew w3)); replace HG3 := Lib.hid (HG3.out.below (below_drew w3)); replace HO3 := Lib.hid (HO3.out.below (below_drew w3)); replace HBX3 := Lib.hid (HBX3.out.below (below_drew w3))
          generalize w3.drew = w4 at *
          go_wp2_with fail
          refine (put_is true g a b k G' w4 HG3.out (by omega) (by omega) (by omega)).mono ?_
          rintro e w5 ⟨rfl, hG5, hg5⟩
          have HG5 := Lib.hid hG5; have HGR5 := Lib.hid hg5
          have HK5 := Lib.hid (HK3.out.grown hg5 (.inr (.inr (.inl rfl))))
          have HI5 : Hid (Inv C' S' w5) := HE.out.stab _ _ _ _ _ HI3.out hg5 (fun k e => by simp only [Option.some.injEq] at e; subst e; exact ⟨HNS.out.2, hB2⟩)
          have HC5 : Hid (Cb w5 cb n g (.slice A' L.length c') (.func (.func f) fa la)) := Row.grown HC3.out hg5 (fun e => by simp only [Option.some.injEq] at e; exact hcg e.symm)
          have HX5 := Lib.hid (Row.grown HBX3.out hg5 (fun e => by simp only [Option.some.injEq] at e; have := HGLT.out; omega))
          have HO5 : Hid (OB w5 B (.slice A' L.length c') L) := World.ownsRow.kept HO3.out hg5 (.inr (own_typed HO3.out ⟨gcells G', (HG3.out : Row w4 g 180 _)⟩ (by decide)))
          clear hG5 hg5 c0 c1 c2 c3 x0 x1 x2 hxl hcl
          obtain ⟨c0, c1, c2, c3⟩ := HC5.out.c4
          obtain ⟨x0, x1, x2⟩ := HX5.out.c3
          have hxl := HX5.out.lt
          have hcl := HC5.out.lt
          have cf := HC5.out.frozen 2
          go_wp2
          obtain ⟨bi0, hbi, hbi0, hbi1, hbi2⟩ := info_parts infoBlk'
          have HROW : Hid ((Value.slice A' L.length c').ownBlock ≠ some cb ∧ (Value.slice A' L.length c').ownBlock ≠ some g ∧ (Value.slice A' L.length c').ownBlock ≠ some q) := ⟨own_typed HO5.out ⟨_, HC5.out⟩ (by decide), own_typed HO5.out ⟨gcells (putG G' (blkN a b k) true), (HG5.out : Row w5 g 180 _)⟩ (by decide), fun e => Nat.lt_irrefl _ (HOLT.out _ e)⟩
          refine wp_region_noPanic ?_
          refine AnyBut.begin (N := 10) (S := (fun w' => w'.cell? ⟨cb, 2, none⟩ = some (.slice A' L.length c') ∧ w'.cell? ⟨q, 0, none⟩ = some (.int .i64 (a : Int)) ∧ w'.cell? ⟨q, 1, none⟩ = some (.int .i64 (b : Int)) ∧ w'.cell? ⟨q, 2, none⟩ = some (.int .i64 (k : Int)))) (by kernel_rfl) ?_
          have hS0 : (fun w' => w'.cell? ⟨cb, 2, none⟩ = some (.slice A' L.length c') ∧ w'.cell? ⟨q, 0, none⟩ = some (.int .i64 (a : Int)) ∧ w'.cell? ⟨q, 1, none⟩ = some (.int .i64 (b : Int)) ∧ w'.cell? ⟨q, 2, none⟩ = some (.int .i64 (k : Int))) w5.drew := ⟨c2, x0, x1, x2⟩
          refine AnyBut.take (i := 0) (v := ?_) rfl rfl (by decide) (by kernel_rfl) (by kernel_rfl) (by kernel_rfl) (by kernel_rfl) (fun _ _ _ h => h) (Or.inl ⟨by rfl, ?_⟩) hS0 ?_; rotate_left; (focus (intro W hSw; (try dsimp only at hSw); obtain ⟨z0, z1, z2, z3⟩ := hSw; go_simp; (try with_reducible rfl))); (try simp only [Act.put, List.setIfInBounds_toArray, List.set_cons_zero, List.set_cons_succ]); refine AnyBut.take (i := 1) (v := ?_) rfl rfl (by decide) (by kernel_rfl) (by kernel_rfl) (by kernel_rfl) (by kernel_rfl) (fun _ _ _ h => h) (Or.inl ⟨by rfl, ?_⟩) hS0 ?_; rotate_left; (focus (intro W hSw; (try dsimp only at hSw); obtain ⟨z0, z1, z2, z3⟩ := hSw; go_simp; (try with_reducible rfl))); (try simp only [Act.put, List.setIfInBounds_toArray, List.set_cons_zero, List.set_cons_succ]); refine AnyBut.take (i := 2) (v := ?_) rfl rfl (by decide) (by kernel_rfl) (by kernel_rfl) (by kernel_rfl) (by kernel_rfl) (fun _ _ _ h => h) (Or.inl ⟨by rfl, ?_⟩) hS0 ?_; rotate_left; (focus (intro W hSw; (try dsimp only at hSw); obtain ⟨z0, z1, z2, z3⟩ := hSw; go_simp; (try with_reducible rfl))); (try simp only [Act.put, List.setIfInBounds_toArray, List.set_cons_zero, List.set_cons_succ]); refine AnyBut.take (i := 3) (v := ?_) rfl rfl (by decide) (by kernel_rfl) (by kernel_rfl) (by kernel_rfl) (by kernel_rfl) (fun _ _ _ h => h) (Or.inl ⟨by rfl, ?_⟩) hS0 ?_; rotate_left; (focus (intro W hSw; (try dsimp only at hSw); obtain ⟨z0, z1, z2, z3⟩ := hSw; go_simp; (try with_reducible rfl))); (try simp only [Act.put, List.setIfInBounds_toArray, List.set_cons_zero, List.set_cons_succ]); refine AnyBut.take (i := 4) (v := ?_) rfl rfl (by decide) (by kernel_rfl) (by kernel_rfl) (by kernel_rfl) (by kernel_rfl) (fun _ _ _ h => h) (Or.inl ⟨by rfl, ?_⟩) hS0 ?_; rotate_left; (focus (intro W hSw; (try dsimp only at hSw); obtain ⟨z0, z1, z2, z3⟩ := hSw; go_simp; (try with_reducible rfl))); (try simp only [Act.put, List.setIfInBounds_toArray, List.set_cons_zero, List.set_cons_succ]); refine AnyBut.take (i := 5) (v := ?_) rfl rfl (by decide) (by kernel_rfl) (by kernel_rfl) (by kernel_rfl) (by kernel_rfl) (fun _ _ _ h => h) (Or.inl ⟨by rfl, ?_⟩) hS0 ?_; rotate_left; (focus (intro W hSw; (try dsimp only at hSw); obtain ⟨z0, z1, z2, z3⟩ := hSw; go_simp; (try with_reducible rfl))); (try simp only [Act.put, List.setIfInBounds_toArray, List.set_cons_zero, List.set_cons_succ])
          have HX5d := Lib.hid (HX5.out.below (below_drew w5)); have HC5d := Lib.hid (HC5.out.below (below_drew w5)); have HO5d := Lib.hid (HO5.out.below (below_drew w5)); have HG5d := Lib.hid (HG5.out.below (below_drew w5))
          have HK5d := Lib.hid (HK5.out.grown (grown_below (below_drew w5) none) (.inl rfl))
          have HI5d : Hid (Inv C' S' w5.drew) := HE.out.stab _ _ _ _ none HI5.out (grown_below (below_drew w5) none) (fun k e => by cases e)
          have HSX : Hid (∀ w', w5.drew.grownBy w' (Value.slice A' L.length c').ownBlock → w'.cell? ⟨cb, 2, none⟩ = some (.slice A' L.length c') ∧ w'.cell? ⟨q, 0, none⟩ = some (.int .i64 (a : Int)) ∧ w'.cell? ⟨q, 1, none⟩ = some (.int .i64 (b : Int)) ∧ w'.cell? ⟨q, 2, none⟩ = some (.int .i64 (k : Int))) := fun w' hg => ⟨(HC5d.out.grown hg HROW.out.1).c4.2.2.1, (Row.grown HX5d.out hg HROW.out.2.2).c3⟩
          clear hS0 c0 c1 c2 c3 x0 x1 x2
          generalize w5.drew = w6 at *
          refine AnyBut.ready (rs := [6]) (by kernel_rfl) (by simp) ?_; refine AllBut.cons rfl (fun K hK => ?_) AllBut.nil
          go_simp
          refine hK.out _ _ (fun _ => ?_) ?_
          · exact HSX.out _ (grown_below (below_alloc w6 _) _)
          clear hK K
          (try simp only [Act.put, List.setIfInBounds_toArray, List.set_cons_zero, List.set_cons_succ])
          refine AnyBut.ready (rs := [7]) (by kernel_rfl) (by simp) ?_; refine AllBut.cons rfl (fun K hK => ?_) AllBut.nil
          have HO6 : Hid (w6.ownsRow B 99 3 (.slice A' L.length c') L.length (cells3' L)) := HO5d.out
          have hB6 : B ≤ w6.heap.size := by have := HC5d.out.lt; omega
          refine step_append_lies _ (by rfl) _ _ 28 (by rfl) B 99 bi0 (.agg #[.int .i64 0, .int .i64 0, .int .i64 0]) 3 24 Try.underlying28 hbi hbi0 hbi1 hbi2 rfl (by decide) _ _ _ (by rfl) (HO6.out.alloc _) ⟨w6.heap.size, 0, none⟩ 1 1 [.int .i64 (a : Int), .int .i64 (b : Int), .int .i64 (k : Int)] (by rfl) rfl (cells_new _ _ _) (by simp [Value.oneCell']) (by omega) (by unfold maxLen; omega) (by omega) (by simp; omega) (w6.heap.size + 1) (by simp) ?_
          intro g7 cap7 w7 hO7 hg7 hat7 hlt7
          have hgr7 : w6.grownBy w7 (Value.slice A' L.length c').ownBlock := grown_trans (grown_below (below_alloc w6 _) _) hg7
          have HGR7 := Lib.hid hgr7
          have HO7 : Hid (OB w7 B (.slice (some ⟨g7, 0, none⟩) (L.length + 1) cap7) (L ++ [blkN a b k])) := OB.snoc (b := blkN a b k) hO7
          have HAT7 : Hid ((Value.slice (some ⟨g7, 0, none⟩) (L.length + 1) cap7).ownBlock = (Value.slice A' L.length c').ownBlock ∨ ∃ q, (Value.slice (some ⟨g7, 0, none⟩) (L.length + 1) cap7).ownBlock = some q ∧ w6.heap.size ≤ q) := by
            rcases hat7 with h | h
            · exact .inl h.symm
            · exact .inr ⟨g7, rfl, by omega⟩
          clear hO7 hg7 hat7 hgr7
          refine hK.out _ _ (fun _ => HSX.out _ HGR7.out) ?_
          clear hK K
          have HC7 := Lib.hid (HC5d.out.grown HGR7.out HROW.out.1)
          obtain ⟨c0, c1, c2, c3⟩ := HC7.out.c4
          have cf7 := HC7.out.frozen 2
          have hcl7 := HC7.out.lt
          (try simp only [Act.put, List.setIfInBounds_toArray, List.set_cons_zero, List.set_cons_succ])
          refine AnyBut.ready (rs := [8]) (by kernel_rfl) (by simp) ?_; refine AllBut.cons rfl (fun K hK => ?_) AllBut.nil
          go_simp
          refine hK.out _ _ (fun _ => HSX.out _ HGR7.out) ?_
          clear hK K
          (try simp only [Act.put, List.setIfInBounds_toArray, List.set_cons_zero, List.set_cons_succ])
          refine AnyBut.ready (rs := [9]) (by kernel_rfl) (by simp) ?_; refine AllBut.cons rfl (fun K hK => ?_) AllBut.nil
          go_simp
          refine hK.out _ _ (fun _ => HSX.out _ HGR7.out) ?_
          clear hK K
          (try simp only [Act.put, List.setIfInBounds_toArray, List.set_cons_zero, List.set_cons_succ])
          refine AnyBut.ready (rs := [10]) (by kernel_rfl) (by simp) ?_; refine AllBut.cons rfl (fun K hK => ?_) AllBut.nil
          go_simp
          refine hK.out _ _ (fun h => absurd rfl h) ?_
          clear hK K
          (try simp only [Act.put, List.setIfInBounds_toArray, List.set_cons_zero, List.set_cons_succ])
          refine AnyBut.done (by kernel_rfl) ?_ _
          refine NoPanic.normal ?_
          have HC8 := Lib.hid (HC7.out.set (.slice (some ⟨g7, 0, none⟩) (L.length + 1) cap7))
          have HG8 := Lib.hid ((HG5d.out.grown HGR7.out HROW.out.2.1).far (p := ⟨cb, 2, none⟩) hcg (.slice (some ⟨g7, 0, none⟩) (L.length + 1) cap7))
          have HX8 := Lib.hid ((Row.grown HX5d.out HGR7.out HROW.out.2.2).far (p := ⟨cb, 2, none⟩) (by have := HCLT.out; simp; omega) (.slice (some ⟨g7, 0, none⟩) (L.length + 1) cap7))
          have HO8 : Hid (OB (w7.setCell ⟨cb, 2, none⟩ (.slice (some ⟨g7, 0, none⟩) (L.length + 1) cap7)) B (.slice (some ⟨g7, 0, none⟩) (L.length + 1) cap7) (L ++ [blkN a b k])) := World.ownsRow.kept HO7.out (grown_set (grown_refl w7 (some cb)) 2 _) (.inr (own_typed HO7.out ⟨_, HC7.out⟩ (by decide)))
          have HI8 : Hid (Inv C' S' (w7.setCell ⟨cb, 2, none⟩ (.slice (some ⟨g7, 0, none⟩) (L.length + 1) cap7))) := HE.out.stab _ _ _ _ _ (HE.out.stab _ _ _ _ _ HI5d.out HGR7.out (fun k e => ⟨HSw.out k e, own_block HO6.out k e⟩)) (grown_set (grown_refl w7 (some cb)) 2 _) (fun k e => by simp only [Option.some.injEq] at e; subst e; exact ⟨HNS.out.1, hB1⟩)
          have HS8 : Hid (∀ b, (Value.slice (some ⟨g7, 0, none⟩) (L.length + 1) cap7).ownBlock = some b → ¬ S' b) := fun b0 e => by
            rcases HAT7.out with h | ⟨q0, h, hq0⟩
            · exact HSw.out b0 (h ▸ e)
            · rw [h] at e; simp only [Option.some.injEq] at e
              intro hS; have h1 := HLT.out _ hS; have h2 := HX5d.out.lt; omega
          have HK8 : Hid (KeptC B w (w7.setCell ⟨cb, 2, none⟩ (.slice (some ⟨g7, 0, none⟩) (L.length + 1) cap7)) S S' cb g (.slice A L.length c) (.slice (some ⟨g7, 0, none⟩) (L.length + 1) cap7)) := by
            refine KeptC.trans (w1 := w6) HK5d.out ?_
            refine ⟨by have := HGR7.out.size; simpa [World.setCell] using this, fun _ _ e => e, fun j hj _ _ h1 h2 h3 => ?_, HAT7.out⟩
            exact (Below.heap_setCell w7 ⟨cb, 2, none⟩ _ j h1).trans (HGR7.out.block j hj (fun e => h3 e.symm))
          generalize hw8 : w7.setCell ⟨cb, 2, none⟩ (.slice (some ⟨g7, 0, none⟩) (L.length + 1) cap7) = w8 at *
          clear hw8 c0 c1 c2 c3 cf7 hcl7 hlt7 hB6 hbi hbi0 hbi1 hbi2 cf hxl hcl
          have HCALL := Lib.hid (HIH.out (m ||| prM a b k) (L ++ [blkN a b k]) C' S' _ _ a w8 (HCNT.out k (by omega) hkn hf) (by omega) (fun j hj => by
            have h1 := HLOW.out j (by omega)
            rw [← Bool.not_eq_true] at h1 ⊢
            intro h2; apply h1
            unfold frK at h2 ⊢
            rw [Nat.testBit_or] at h2
            simp only [Bool.and_eq_true, Bool.not_eq_true', Bool.or_eq_false_iff] at h2 ⊢
            exact ⟨h2.1, h2.2.1⟩) (HVM.out k (by omega) hkn hf) (by
            have h1 : C'.length ≤ C.length + (SQ k).length := by have h := runG_len cont (SQ k) C; rw [HRUN.out] at h; exact h
            have h2 := HMONO.out (k + 1) (by omega)
            rw [HST.out k, if_pos ⟨hkb, hf⟩, List.length_append] at h2
            have h3 := HNB.out
            omega) (by simp; omega) (runG_go HRUN.out HGO.out) HI8.out HC8.out HG8.out (HMw.out.put hab (by omega) (by omega)) HO8.out HNS.out.1 HNS.out.2 HS8.out (by have := HC8.out.lt; omega))
          go_wp2_with fail
          refine HCALL.out.mono ?_
          rintro e w9 ⟨C2, S2, fl, u2, G2, rfl, hrun, hI9, hC9, hG9, hM9, hO9, hs9, hk9⟩
          have HRUN2 : Hid (runG cont (SQ (k + 1)) C = (C2, fl)) := by
            unfold Hid
            rw [HST.out, if_pos ⟨hkb, hf⟩, runG_app, HRUN.out, if_pos rfl]; exact hrun
          obtain ⟨A2, e2, hu2⟩ := own_slice hO9
          rw [List.length_append, List.length_singleton] at hu2
          subst hu2
          obtain ⟨hcut, hcap2, g2, hA2⟩ := OB.cut hO9
          subst hA2
          have HI9 := Lib.hid hI9; have HC9 := Lib.hid hC9; have HG9 := Lib.hid hG9; have HM9 := Lib.hid hM9; have HO9 := Lib.hid hcut; have HS9 := Lib.hid hs9; have HK9 := Lib.hid hk9
          have HX9 : Hid (Row w9 q 99 #[.int .i64 (a : Int), .int .i64 (b : Int), .int .i64 (k : Int)]) := by
            refine (hk9.heap q HX8.out.lt HQ.out (fun h => Nat.lt_irrefl _ (HLT.out _ h)) (by have := HCLT.out; omega) (by have := HGLT.out; omega) ?_).trans HX8.out
            rcases HAT7.out with h | ⟨q0, h, hq0⟩
            · rw [h]; exact HROW.out.2.2
            · rw [h]; intro e; simp only [Option.some.injEq] at e; have := HX5d.out.lt; omega
          have HKA : Hid (KeptC B w w9 S S2 cb g (.slice A L.length c) (.slice (some ⟨g2, 0, none⟩) (L.length + 1) e2)) := HK8.out.trans HK9.out
          have HNS2 : Hid (¬ S2 cb ∧ ¬ S2 g) := ⟨fun h => HS.out.1 (HKA.out.set _ HC.out.lt h), fun h => HS.out.2.1 (HKA.out.set _ HG.out.lt h)⟩
          clear hrun hI9 hC9 hG9 hM9 hO9 hs9 hk9 hcut HCALL HK8 HC8 HG8 HX8 HO8 HI8 HS8 HK5d HI5d HG5d HC5d HX5d HO5d HSX HK5 HI5 HC5 HX5 HO5 HG5 HI3 HC3 HG3 HO3 HK3 HBX3 HO7 HO6 HGR7 HC7
          obtain ⟨c0, c1, c2, c3⟩ := HC9.out.c4
          obtain ⟨x0, x1, x2⟩ := HX9.out.c3
          have hxl := HX9.out.lt
          have hcl := HC9.out.lt
          go_wp2
          go_still_tail 5, (by kernel_rfl)
          change wpList _ _ _ _ _ w9.drew
          replace HKA := Lib.hid (HKA.out.grown (grown_below (below_drew w9) none) (.inl rfl))
          replace HI9 : Hid (Inv C2 S2 w9.drew) := HE.out.stab _ _ _ _ none HI9.out (grown_below (below_drew w9) none) (fun k e => by cases e)
          replace HC9 := Lib.hid (HC9.out.below (below_drew w9)); replace HG9 := Lib.hid (HG9.out.below (below_drew w9)); replace HO9 := Lib.hid (HO9.out.below (below_drew w9))
          generalize w9.drew = w10 at *
          go_wp2_with fail
          refine (put_is false g a b k G2 w10 HG9.out (by omega) (by omega) (by omega)).mono ?_
          rintro e w11 ⟨rfl, hG11, hg11⟩
          have HG11 := Lib.hid hG11
          have HK11 := Lib.hid (HKA.out.grown hg11 (.inr (.inr (.inl rfl))))
          have HI11 : Hid (Inv C2 S2 w11) := HE.out.stab _ _ _ _ _ HI9.out hg11 (fun k e => by simp only [Option.some.injEq] at e; subst e; exact ⟨HNS2.out.2, hB2⟩)
          have HC11 := Lib.hid (HC9.out.grown hg11 (fun e => by simp only [Option.some.injEq] at e; exact hcg e.symm))
          have HO11 : Hid (OB w11 B (.slice (some ⟨g2, 0, none⟩) L.length e2) L) := World.ownsRow.kept HO9.out hg11 (.inr (own_typed HO9.out ⟨gcells G2, (HG9.out : Row w10 g 180 _)⟩ (by decide)))
          clear hG11 hg11 HKA HI9 HC9 HG9 HO9 c0 c1 c2 c3 x0 x1 x2 hxl hcl HX9
          obtain ⟨c0, c1, c2, c3⟩ := HC11.out.c4
          have cf := HC11.out.frozen 2
          have hcl := HC11.out.lt
          have i9 : (L.length : Int) ≤ (e2 : Int) := by omega
          have j9 : L.length ≤ e2 := by omega
          have hwr : IntKind.i64.wrap (L.length : Int) = (L.length : Int) := by first | go_unwrap | go_num
          go_wp2
          go_still_tail 12, (by kernel_rfl)
          change wpList _ _ _ _ _ w11.drew
          replace HK11 := Lib.hid (HK11.out.grown (grown_below (below_drew w11) none) (.inl rfl))
          replace HI11 : Hid (Inv C2 S2 w11.drew) := HE.out.stab _ _ _ _ none HI11.out (grown_below (below_drew w11) none) (fun k e => by cases e)
          replace HC11 := Lib.hid (HC11.out.below (below_drew w11)); replace HG11 := Lib.hid (HG11.out.below (below_drew w11)); replace HO11 := Lib.hid (HO11.out.below (below_drew w11))
          clear c0 c1 c2 c3 cf hcl
          generalize w11.drew = w12 at *
          obtain ⟨c0, c1, c2, c3⟩ := HC11.out.c4
          have cf := HC11.out.frozen 2
          have hcl := HC11.out.lt
          have HC13 := Lib.hid (HC11.out.set (.slice (some ⟨g2, 0, none⟩) L.length e2))
          have HG13 := Lib.hid (HG11.out.far (p := ⟨cb, 2, none⟩) hcg (.slice (some ⟨g2, 0, none⟩) L.length e2))
          have HO13 : Hid (OB (w12.setCell ⟨cb, 2, none⟩ (.slice (some ⟨g2, 0, none⟩) L.length e2)) B (.slice (some ⟨g2, 0, none⟩) L.length e2) L) := World.ownsRow.kept HO11.out (grown_set (grown_refl w12 (some cb)) 2 _) (.inr (own_typed HO11.out ⟨_, HC11.out⟩ (by decide)))
          have HI13 : Hid (Inv C2 S2 (w12.setCell ⟨cb, 2, none⟩ (.slice (some ⟨g2, 0, none⟩) L.length e2))) := HE.out.stab _ _ _ _ _ HI11.out (grown_set (grown_refl w12 (some cb)) 2 _) (fun k e => by simp only [Option.some.injEq] at e; subst e; exact ⟨HNS2.out.1, hB1⟩)
          have HK13 : Hid (KeptC B w (w12.setCell ⟨cb, 2, none⟩ (.slice (some ⟨g2, 0, none⟩) L.length e2)) S S2 cb g (.slice A L.length c) (.slice (some ⟨g2, 0, none⟩) L.length e2)) := by
            refine KeptC.trans (w1 := w12) HK11.out ?_
            exact ⟨by simp [World.setCell], fun _ _ e => e, fun j hj _ _ h1 h2 h3 => Below.heap_setCell w12 ⟨cb, 2, none⟩ _ j h1, .inl rfl⟩
          have HS13 : Hid (∀ b, (Value.slice (some ⟨g2, 0, none⟩) L.length e2).ownBlock = some b → ¬ S2 b) := fun b0 e => HS9.out b0 e
          have HM13 := Lib.hid (HM9.out.take hf hab (by omega) (by omega))
          generalize hw13 : w12.setCell ⟨cb, 2, none⟩ (.slice (some ⟨g2, 0, none⟩) L.length e2) = w13 at *
          cases fl
          · go_wp2
            go_ret
            exact ⟨C2, S2, false, _, _, rfl, by rw [HEN.out]; exact HSTOP.out (k + 1) C2 HRUN2.out (by omega), HI13.out, HC13.out, HG13.out, HM13.out, HO13.out, HS13.out, HK13.out⟩
          · go_wp2
            go_roundw
            case rel => exact ⟨k + 1, C2, S2, _, _, by omega, by omega, by go_num, HRUN2.out, HI13.out, HC13.out, HG13.out, HM13.out, HO13.out, HS13.out, HK13.out⟩
            case measure => simp [intOf]; omega
      · obtain rfl : k = n := by omega
        go_wp2
        go_ret
        exact ⟨C', S', true, u', G', rfl, by rw [HEN.out]; exact HRUN.out, HIw.out, HCw.out, HGw.out, HMw.out, HOw.out, HSw.out, HKw.out⟩

end Go.Proofs.Ytbknpflbafjblaa

/- Plain laws of completions of a system. Conditions: stated in each. -/
namespace Go.Proofs.Ytbknpflbafjblaa
set_option linter.unusedSimpArgs false
set_option linter.unusedVariables false

/-- the pairs of the first blocks, as digits -/
def mskN (xs : List Blk) : Nat → Nat
  | 0 => 0
  | k + 1 => mskN xs k ||| prM (nth xs k).1.toNat (nth xs k).2.1.toNat (nth xs k).2.2.toNat
theorem good_nat {v : Int} {b : Blk} (h : goodB v b = true) : ∃ x y z : Nat, b = blkN x y z ∧ x < y ∧ y < z ∧ (z : Int) < v ∧ b.1.toNat = x ∧ b.2.1.toNat = y ∧ b.2.2.toNat = z := by
  have hb := good_bd h
  refine ⟨b.1.toNat, b.2.1.toNat, b.2.2.toNat, ?_, by omega, by omega, by omega, rfl, rfl, rfl⟩
  unfold blkN
  rw [Int.toNat_of_nonneg (by omega), Int.toNat_of_nonneg (by omega), Int.toNat_of_nonneg (by omega)]
theorem mskN_gm {v : Int} {xs : List Blk} (hv : v ≤ 15) (ha : areB v xs) : ∀ k, k ≤ xs.length → GM (gridN xs k) (mskN xs k) := by
  intro k
  induction k with
  | zero => intro _ x y _ _; simp [gridN, mskN]
  | succ k ih =>
    intro hk
    obtain ⟨x, y, z, e, h1, h2, h3, e1, e2, e3⟩ := good_nat (good_mono (ha k (by omega)).1 hv)
    have hput := (ih (by omega)).put h1 h2 (by omega : z < 15)
    have e4 : gridN xs (k + 1) = putG (gridN xs k) (blkN x y z) true := by rw [← e]; rfl
    have e5 : mskN xs (k + 1) = mskN xs k ||| prM x y z := by rw [← e1, ← e2, ← e3]; rfl
    rw [e4, e5]; exact hput
theorem msk_fit {v : Int} {xs : List Blk} (hs : isSys v xs) {k : Nat} (hk : k < xs.length) : fitQ3 (mskN xs k) (nth xs k).1.toNat (nth xs k).2.1.toNat (nth xs k).2.2.toNat = true := by
  have hg : ∀ j, j < xs.length → goodB 15 (nth xs j) = true := fun j hj => good_mono (hs.2.2.1 j hj).1 hs.1.2
  obtain ⟨x, y, z, e, h1, h2, h3, e1, e2, e3⟩ := good_nat (hg k hk)
  have hl := (mskN_gm hs.1.2 hs.2.2.1 k (by omega)).left h1 h2 (by omega : z < 15)
  rw [e1, e2, e3, ← hl, ← e, left_iff (fun j hj => hg j (by omega)) (hg k hk)]
  exact fun j hj => hs.2.2.2 k hk j hj
theorem msk_cnt {n : Nat} {xs : List Blk} (hs : isSys n xs) : ∀ k, k ≤ xs.length → cntC n (mskN xs k) + 3 * k = cntC n 0 := by
  intro k
  induction k with
  | zero => intro _; rw [mskN, Nat.mul_zero, Nat.add_zero]
  | succ k ih =>
    intro hk
    have hf := msk_fit hs (k := k) (by omega)
    obtain ⟨x, y, z, e, h1, h2, h3, e1, e2, e3⟩ := good_nat (hs.2.2.1 k (by omega)).1
    rw [e1, e2, e3] at hf
    have hv := hs.1.2
    have hput := cntC_put (v := n) (by omega) h1 h2 (by omega) hf
    have := ih (by omega)
    rw [mskN, e1, e2, e3]
    omega
theorem msk_bits {n : Nat} {xs : List Blk} (hs : isSys n xs) : ∀ k, k ≤ xs.length → ∀ j, j < k → ∃ x y z : Nat, nth xs j = blkN x y z ∧ x < y ∧ y < z ∧ z < n ∧ (mskN xs k).testBit (x * 16 + y) = true := by
  intro k
  induction k with
  | zero => intro _ j hj; omega
  | succ k ih =>
    intro hk j hj
    by_cases e : j < k
    · obtain ⟨x, y, z, h1, h2, h3, h4, h5⟩ := ih (by omega) j e
      exact ⟨x, y, z, h1, h2, h3, h4, by rw [mskN, Nat.testBit_or, h5]; rfl⟩
    · obtain rfl : j = k := by omega
      obtain ⟨x, y, z, e, h1, h2, h3, e1, e2, e3⟩ := good_nat (hs.2.2.1 j (by omega)).1
      exact ⟨x, y, z, e, h1, h2, by omega, by rw [mskN, e1, e2, e3, Nat.testBit_or, prM_bit]; simp⟩
theorem cntC_told : cntC 3 0 = 3 ∧ cntC 7 0 = 21 ∧ cntC 9 0 = 36 ∧ cntC 13 0 = 78 ∧ cntC 15 0 = 105 := by decide +kernel
/-- the blocks that a full system has more -/
def misN (n : Nat) (xs : List Blk) : Nat := n * (n - 1) / 6 - xs.length
theorem mis_cnt {n : Nat} {xs : List Blk} (hs : isSys n xs) (ht : n = 3 ∨ n = 7 ∨ n = 9 ∨ n = 13 ∨ n = 15) : cntC n (mskN xs xs.length) = 3 * misN n xs ∧ xs.length + misN n xs = n * (n - 1) / 6 := by
  have h := msk_cnt hs xs.length (Nat.le_refl _)
  have ht0 := cntC_told
  unfold misN
  rcases ht with rfl | rfl | rfl | rfl | rfl <;> simp only [Nat.reduceMul, Nat.reduceSub, Nat.reduceDiv] <;> omega
/-- all completions, as lists of the blocks that are put in, in order -/
def addC (n : Nat) (xs : List Blk) : List (List Blk) := enumC n (misN n xs) (mskN xs xs.length) []
theorem enumC_pre (v : Nat) : ∀ d u X L, enumC v d u (X ++ L) = (enumC v d u L).map (fun M => X ++ M) := by
  intro d
  induction d with
  | zero => intro u X L; simp [enumC]
  | succ d ih =>
    intro u X L
    rw [enumC, enumC]
    have key : ∀ k, loopG (fun p => enumC v d (u ||| prM (nxt v u / 16) (nxt v u % 16) p) (X ++ L ++ [blkN (nxt v u / 16) (nxt v u % 16) p])) (fun p => fitQ3 u (nxt v u / 16) (nxt v u % 16) p) (nxt v u % 16 + 1) k
        = (loopG (fun p => enumC v d (u ||| prM (nxt v u / 16) (nxt v u % 16) p) (L ++ [blkN (nxt v u / 16) (nxt v u % 16) p])) (fun p => fitQ3 u (nxt v u / 16) (nxt v u % 16) p) (nxt v u % 16 + 1) k).map (fun M => X ++ M) := by
      intro k
      induction k with
      | zero => rfl
      | succ k ihk =>
        rw [loopG, loopG, ihk, List.map_append]
        congr 1
        split
        · rw [List.append_assoc, ih]
        · rfl
    exact key v
theorem enum_add (n : Nat) (xs : List Blk) : enumC n (misN n xs) (mskN xs xs.length) xs = (addC n xs).map (fun M => xs ++ M) := by
  have := enumC_pre n (misN n xs) (mskN xs xs.length) xs []
  rw [List.append_nil] at this; exact this
/-- completions in order -/
theorem add_pair {n : Nat} {xs : List Blk} (hs : isSys n xs) (ht : n = 3 ∨ n = 7 ∨ n = 9 ∨ n = 13 ∨ n = 15) : (addC n xs).Pairwise (fun M N => befL (srtL (xs ++ N)) (srtL (xs ++ M)) = false) := by
  have hv := hs.1.2
  refine enumC_pair (by omega) xs _ _ [] (mis_cnt hs ht).1 fun s hs' => ?_
  rw [List.append_nil] at hs'
  obtain ⟨k, hk, e⟩ := mem_nth hs'
  rw [← e]; exact msk_bits hs xs.length (Nat.le_refl _) k hk
theorem add_len {n : Nat} {xs : List Blk} (hs : isSys n xs) (ht : n = 3 ∨ n = 7 ∨ n = 9 ∨ n = 13 ∨ n = 15) {M : List Blk} (hM : M ∈ addC n xs) : M.length = misN n xs := by
  have hv := hs.1.2
  obtain ⟨T, e, hl, _⟩ := enumC_mem (by omega) _ _ _ _ (mis_cnt hs ht).1 hM
  rw [e]; simpa using hl

/-- the first completions, as sorted blocks -/
def cplL (n : Nat) (xs : List Blk) (most : Nat) : List (List Blk) := ((addC n xs).take most).map fun M => srtL (xs ++ M)
theorem cplL_len (n : Nat) (xs : List Blk) (most : Nat) : (cplL n xs most).length ≤ most := by unfold cplL; rw [List.length_map, List.length_take]; omega
theorem cplL_run {n : Nat} {xs : List Blk} {most : Nat} (hm : 0 < most) : ((runG (fun C => decide (C.length < most)) ((addC n xs).map fun M => xs ++ M) []).1).map srtL = cplL n xs most := by
  rw [runG_cap most _ [] (by simpa using hm)]
  unfold takeG cplL
  simp [List.map_take, Function.comp_def]

end Go.Proofs.Ytbknpflbafjblaa

/- The contract of the program's walk through all completions; conditions: stated in it. -/
namespace Go.Proofs.Ytbknpflbafjblaa
open Go.RowKit
set_option maxHeartbeats 2000000
set_option maxRecDepth 100000
set_option linter.unusedSimpArgs false
set_option linter.unusedVariables false

theorem complete_any (n : Nat) (A : Option Addr) (c : Nat) (xs : List Blk) (f : Nat) (fa la : Array Value) (cont : List (List Blk) → Bool) (Inv : List (List Blk) → (Nat → Prop) → World → Prop) (V : List Blk → Prop) (N : Nat) (w : World)
    (hA : Bl w A xs) (hs : isSys n xs) (ht : n = 3 ∨ n = 7 ∨ n = 9 ∨ n = 13 ∨ n = 15) (hV : ∀ M ∈ addC n xs, V (xs ++ M)) (hN : (addC n xs).length ≤ N) (hI : Inv [] (fun _ => False) w)
    (hE : ∀ cb g, w.heap.size ≤ cb → w.heap.size ≤ g → EachC w.heap.size cb g n f fa la cont Inv V N) :
    Calls Try.prog 139 #[.agg #[.int .i64 n, .slice A xs.length c], .func (.func f) fa la] w fun e w' => e = .returned (.tuple #[]) ∧ ∃ S', Inv (runG cont ((addC n xs).map fun M => xs ++ M) []).1 S' w' := by
  have HI := Lib.hid hI; have HE := Lib.hid hE; have HS := Lib.hid hs; have HV := Lib.hid hV; have HT := Lib.hid ht; have HNN := Lib.hid hN
  have hl : xs.length ≤ 1048576 := by have := hs.2.1; omega
  have hl35 := hs.2.1
  have hv := hs.1
  have HW := Lib.hid (below_alloc w (.cells #[.int .i64 n, .slice A xs.length c] 30))
  have HA := Lib.hid (hA.below HW.out)
  have HR := Lib.hid (Row.box w 30 (.int .i64 n) (.slice A xs.length c))
  clear hA hI hE hs hV ht hN
  go_enter Try.func139, Try.ntmps139
  obtain ⟨c0, c1⟩ := HR.out.c2
  go_wp2
  generalize hWo : w.alloc _ = w5 at *
  have HKEEP := Lib.hid (And.intro c0 c1)
  clear c0 c1
  go_region_held3 (fun w' => w'.cell? ⟨w.heap.size, 0, none⟩ = some (.int .i64 n) ∧ w'.cell? ⟨w.heap.size, 1, none⟩ = some (.slice A xs.length c)) (first | exact HKEEP.out | exact ⟨(HRz.out.below (below_alloc _ _)).c2.1, (HRz.out.below (below_alloc _ _)).c2.2⟩) (first
    | (go_at_call 95
       refine (grid_any n A c xs _ (HA.out.below (below_drew _)) hl HS.out).mono ?_
       rintro e6 w6 ⟨gx, rfl, hle, hGr, hb⟩
       have HGx := Lib.hid hGr
       have HB6 := Lib.hid (below_up (below_drew w5) hb)
       have HL6 : Hid (w5.heap.size ≤ gx) := hle
       have HR6 := Lib.hid (HR.out.below HB6.out)
       replace HKEEP := Lib.hid (And.intro HR6.out.c2.1 HR6.out.c2.2)
       clear hb hGr hle)
    | (go_at_call 96
       refine (cloneB_any A c xs _ (HA.out.below HB6.out) hl).mono ?_
       rintro e7 w7 ⟨u7, rfl, hO, hb⟩
       obtain ⟨A7, d7, rfl⟩ := own_slice hO
       have HO7 := Lib.hid hO
       have HGx2 := Lib.hid (HGx.out.below hb)
       have HB7 := Lib.hid (below_up HB6.out hb)
       have HSB : Hid (w5.heap.size ≤ w6.heap.size) := HB6.out.size
       have HRz := Lib.hid (HR.out.below HB7.out)
       replace HKEEP := Lib.hid (And.intro HRz.out.c2.1 HRz.out.c2.2)
       clear hb hO))
  have HB8 := Lib.hid (below_alloc w7 (.cells #[.int .i64 n, .pointer (some ⟨gx, 0, none⟩), .slice A7 xs.length d7, .func (.func f) fa la] 168))
  have HC8 : Hid (Cb (w7.alloc (.cells #[.int .i64 n, .pointer (some ⟨gx, 0, none⟩), .slice A7 xs.length d7, .func (.func f) fa la] 168)) w7.heap.size n gx (.slice A7 xs.length d7) (.func (.func f) fa la)) := Row.new w7 _ _
  have hgx := HGx2.out.lt
  have HX8 := Lib.hid (HGx2.out.below HB8.out)
  have HO8 : Hid (OB (w7.alloc (.cells #[.int .i64 n, .pointer (some ⟨gx, 0, none⟩), .slice A7 xs.length d7, .func (.func f) fa la] 168)) w.heap.size (.slice A7 xs.length d7) xs) := OB.base (HO7.out.below HB8.out) (Nat.le_trans HW.out.size HSB.out)
  have HBW : Hid (Below w.heap.size w (w7.alloc (.cells #[.int .i64 n, .pointer (some ⟨gx, 0, none⟩), .slice A7 xs.length d7, .func (.func f) fa la] 168))) := below_up HW.out (below_up HB7.out HB8.out)
  have HZ8 : Hid (w.heap.size ≤ w7.heap.size) := Nat.le_trans HW.out.size HB7.out.size
  have HE8 := Lib.hid (HE.out w7.heap.size gx HZ8.out (Nat.le_trans HW.out.size HL6.out))
  have HI8 := Lib.hid (HE8.out.stab _ _ _ _ none HI.out (grown_below HBW.out none) (fun k e => by cases e))
  have hmc := mis_cnt HS.out HT.out
  have hm35 : xs.length + misN n xs ≤ 1000 := by
    rw [hmc.2]
    have : n * (n - 1) ≤ 15 * 15 := Nat.mul_le_mul (by omega) (by omega)
    omega
  have HMC := Lib.hid hmc.1
  clear hmc
  go_wp2_with fail
  refine (from_comp w.heap.size w7.heap.size gx n f fa la cont Inv V N HE8.out (by omega) (by omega) HZ8.out (Nat.le_trans HW.out.size HL6.out) (misN n xs) (mskN xs xs.length) xs [] (fun _ => False) _ (gridN xs xs.length) 0 _ HMC.out (by omega) (fun j hj => by omega) (fun M hM => by rw [enum_add, List.mem_map] at hM; obtain ⟨N, h1, h2⟩ := hM; rw [← h2]; exact HV.out N h1) (by rw [enum_add, List.length_map]; simpa using HNN.out) hm35 (.inl rfl) HI8.out HC8.out HX8.out (mskN_gm (by omega) HS.out.2.2.1 _ (Nat.le_refl _)) HO8.out (fun h => h) (fun h => h) (fun b _ h => h) HBW.out.size).mono ?_
  rintro e w9 ⟨C', S', fl, u', G', rfl, hrun, hI9, _⟩
  have HI9 : Hid (Inv (runG cont ((addC n xs).map fun M => xs ++ M) []).1 S' w9) := by unfold Hid; rw [← enum_add, hrun]; exact hI9
  clear hrun hI9
  go_wp2
  go_end0
  exact ⟨rfl, S', HI9.out⟩

end Go.Proofs.Ytbknpflbafjblaa

/- Contracts: slices.Index, slices.Contains over numbers; conditions: stated in each. -/
namespace Go.Proofs.Ytbknpflbafjblaa
open Go.RowKit
set_option maxHeartbeats 400000

theorem idxFrom_step {xs : List Int} {x : Int} {k : Nat} (h : k < xs.length) : idxFrom xs x (xs.length - k) k = if x = nthI xs k then (k : Int) else idxFrom xs x (xs.length - (k + 1)) (k + 1) := by
  rw [show xs.length - k = (xs.length - (k + 1)) + 1 by omega, idxFrom]

theorem slicesIndex_any (A : Option Addr) (c : Nat) (xs : List Int) (x : Int) (w : World) (hA : Il w A xs) (hl : xs.length ≤ 1048576) :
    Calls Try.prog 181 #[.slice A xs.length c, .int .i64 x] w fun e w' => e = .returned (.int .i64 (idxI xs x)) ∧ w = w' := by
  have HA := Lib.hid hA; clear hA
  go_enter Try.func181, Try.ntmps181
  go_wp2
  go_loop [8] (fun i => ∃ k : Nat, k ≤ xs.length ∧ i = .int .i64 k ∧ Hid (idxI xs x = idxFrom xs x (xs.length - k) k)) (fun i => xs.length - (intOf i).toNat)
  case atStart => exact ⟨0, by omega, rfl, rfl⟩
  case round =>
    obtain ⟨k, hk, rfl, HC⟩ := hrel
    by_cases hlt : k < xs.length
    · obtain ⟨b1, o1, hA1, hb1, p0⟩ := HA.out.at_ hlt
      subst hA1
      have HS : Hid _ := idxFrom_step (x := x) hlt
      by_cases he : x = nthI xs k
      · have he' : (x == nthI xs k) = true := by simpa using he
        have HE := Lib.hid he; clear he
        go_wp2
        go_ret
        refine ⟨ret_int ?_, rfl⟩
        rw [HC.out, HS.out, if_pos HE.out]
      · have he' : (x == nthI xs k) = false := by simpa using he
        have HE := Lib.hid he; clear he
        go_wp2
        go_round
        case rel => exact ⟨k + 1, by omega, by go_num, by unfold Hid; rw [HC.out, HS.out, if_neg HE.out]⟩
        case measure => simp [intOf]; omega
    · obtain rfl : k = xs.length := by omega
      go_wp2
      go_ret
      refine ⟨ret_int ?_, rfl⟩
      rw [HC.out, Nat.sub_self]; rfl

theorem slicesContains_any (A : Option Addr) (c : Nat) (xs : List Int) (x : Int) (w : World) (hA : Il w A xs) (hl : xs.length ≤ 1048576) :
    Calls Try.prog 173 #[.slice A xs.length c, .int .i64 x] w fun e w' => e = .returned (.bool (decide (idxI xs x ≥ 0))) ∧ w = w' := by
  have HA := Lib.hid hA; clear hA
  go_enter Try.func173, Try.ntmps173
  go_wp2_with (go_at_call 181; refine (slicesIndex_any A c xs x _ HA.out hl).mono ?_; rintro e w' ⟨rfl, rfl⟩)
  go_ret
  exact ⟨ret_bool rfl, rfl⟩

end Go.Proofs.Ytbknpflbafjblaa
