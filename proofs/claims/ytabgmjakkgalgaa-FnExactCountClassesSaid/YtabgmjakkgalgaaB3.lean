/- Plain laws and contracts, part 3; conditions: stated in each. -/
import Derived.Laws.MakeOwn
import Derived.OrdersHeld
import Derived.Deep.RegionHeld
import Derived.Test.YtabgmjakkgalgaaB1
import Derived.Test.YtabgmjakkgalgaaB2
set_option linter.unusedSimpArgs false
set_option linter.unusedVariables false
/- Plain laws of automorphisms: they are a group, their orbits, and those that go around. Conditions: none. -/
namespace Go.Proofs.Ytabgmjakkgalgaa

theorem loop_in {f : Nat → List (List Int)} {p : Nat → Bool} {a i : Nat} {l : List Int} (hp : p i = true) (hl : l ∈ f i) (ha : a ≤ i) : ∀ m, i < m → l ∈ loopL f p a m := by
  intro m
  induction m with
  | zero => intro h; omega
  | succ m ih =>
    intro h
    rw [loopL, List.mem_append]
    by_cases e : i = m
    · subst e; right; rw [if_pos ⟨ha, hp⟩]; exact hl
    · exact .inl (ih (by omega))
theorem list_ext {L M : List Int} (hl : L.length = M.length) (h : ∀ k, k < L.length → nthI L k = nthI M k) : L = M := by
  apply List.ext_getElem hl
  intro k h1 h2
  have := h k h1
  unfold nthI at this
  simpa [List.getD_eq_getElem?_getD, List.getElem?_eq_getElem h1, List.getElem?_eq_getElem h2] using this
theorem im_eq {L M : List Int} {k : Nat} (h : nthI L k = nthI M k) : im L k = im M k := by unfold im; rw [h]
theorem enum_has {n : Nat} {T1 T2 : Nat → Nat → Nat} {M : List Int} (hM : Val n T1 T2 M) (hl : M.length = n) : ∀ d L, L.length + d = n → (∀ k, k < L.length → nthI L k = nthI M k) → M ∈ enumL n (fitI T1 T2) d L := by
  intro d
  induction d with
  | zero =>
    intro L hd hk
    rw [enumL, List.mem_singleton]
    exact (list_ext (by omega) hk).symm
  | succ d ih =>
    intro L hd hk
    rw [enumL]
    have hr := hM.rng L.length (by omega)
    refine loop_in (i := im M L.length) (fitI_iff.2 ⟨usedB_not.2 fun k hk2 e => ?_, fun a ha hT => ?_⟩) (ih _ (by simp; omega) fun k hk2 => ?_) (Nat.zero_le _) n hr.1
    · rw [im_eq (hk k hk2)] at e
      have := hM.inj k L.length (by omega) (by omega) e
      omega
    · have := hM.hom a L.length (by omega) (by omega) (by omega) (by omega)
      rw [im_eq (hk a ha), im_eq (hk _ hT)]; exact this
    · rw [List.length_append, List.length_singleton] at hk2
      by_cases e : k = L.length
      · subst e; rw [nthI_last]; exact hr.2.symm
      · rw [nthI_app (by omega)]; exact hk k (by omega)
theorem lead_iff {n : Nat} {T1 T2 : Nat → Nat → Nat} (h1 : Sts n T1) (h2 : Sts n T2) {M : List Int} : M ∈ enumL n (fitI T1 T2) n [] ↔ Val n T1 T2 M ∧ M.length = n := by
  constructor
  · intro h
    obtain ⟨k1, k2, _⟩ := enum_val h1 h2 n [] (val_nil n T1 T2) (by simp) M h
    exact ⟨k1, k2⟩
  · rintro ⟨h, hl⟩
    exact enum_has h hl n [] (by simp) (fun k hk => by simp at hk)
/-- a list by its numbers -/
def mapL (n : Nat) (f : Nat → Nat) : List Int := (List.range n).map fun i => ((f i : Nat) : Int)
theorem mapL_len (n : Nat) (f : Nat → Nat) : (mapL n f).length = n := by simp [mapL]
theorem mapL_at {n : Nat} (f : Nat → Nat) {k : Nat} (h : k < n) : nthI (mapL n f) k = (f k : Int) := by simp [mapL, nthI, h]
theorem mapL_im {n : Nat} (f : Nat → Nat) {k : Nat} (h : k < n) : im (mapL n f) k = f k := by unfold im; rw [mapL_at f h]; rfl
theorem val_map {n : Nat} {T1 T2 : Nat → Nat → Nat} (h1 : Sts n T1) {f : Nat → Nat} (hr : ∀ k, k < n → f k < n) (hi : ∀ j k, j < n → k < n → f j = f k → j = k) (hh : ∀ a b, a < n → b < n → a ≠ b → T2 (f a) (f b) = f (T1 a b)) : Val n T1 T2 (mapL n f) := by
  refine ⟨by rw [mapL_len]; omega, fun k hk => ?_, fun j k hj hk e => ?_, fun a b ha hb hab hT => ?_⟩
  · rw [mapL_len] at hk; rw [mapL_im f hk, mapL_at f hk]; exact ⟨hr k hk, rfl⟩
  · rw [mapL_len] at hj hk; rw [mapL_im f hj, mapL_im f hk] at e; exact hi j k hj hk e
  · rw [mapL_len] at ha hb hT; rw [mapL_im f ha, mapL_im f hb, mapL_im f hT]; exact hh a b ha hb hab
theorem val_onto {n : Nat} {T1 T2 : Nat → Nat → Nat} {M : List Int} (hM : Val n T1 T2 M) (hl : M.length = n) {i : Nat} (hi : i < n) : ∃ k, k < n ∧ im M k = i := by
  refine Classical.byContradiction fun hno => ?_
  have hno' : ∀ k, k < n → im M k ≠ i := fun k hk e => hno ⟨k, hk, e⟩
  have hnd : (i :: (List.range n).map (im M)).Nodup := by
    rw [List.nodup_cons]
    refine ⟨fun hm => ?_, ?_⟩
    · obtain ⟨k, hk, e⟩ := List.mem_map.1 hm
      exact hno' k (List.mem_range.1 hk) e
    · rw [List.nodup_iff_pairwise_ne, List.pairwise_map]
      have hp := List.nodup_range (n := n)
      rw [List.nodup_iff_pairwise_ne] at hp
      refine List.Pairwise.imp_of_mem (fun {a b} ha hb hne e => hne ?_) hp
      exact hM.inj a b (by have := List.mem_range.1 ha; omega) (by have := List.mem_range.1 hb; omega) e
  have := nodup_lt n _ hnd (by
    intro x hx
    rcases List.mem_cons.1 hx with rfl | hx
    · exact hi
    · obtain ⟨k, hk, rfl⟩ := List.mem_map.1 hx
      exact (hM.rng k (by have := List.mem_range.1 hk; omega)).1)
  simp at this; omega
noncomputable def invF (M : List Int) (n i : Nat) : Nat := open Classical in if h : ∃ k, k < n ∧ im M k = i then Classical.choose h else 0
theorem invF_is {n : Nat} {T1 T2 : Nat → Nat → Nat} {M : List Int} (hM : Val n T1 T2 M) (hl : M.length = n) {i : Nat} (hi : i < n) : invF M n i < n ∧ im M (invF M n i) = i := by
  have h := val_onto hM hl hi
  unfold invF
  rw [dif_pos h]
  exact Classical.choose_spec h
/-- automorphisms -/
structure Aut (n : Nat) (T : Nat → Nat → Nat) (M : List Int) : Prop where
  v : Val n T T M
  l : M.length = n
theorem aut_id {n : Nat} {T : Nat → Nat → Nat} (h : Sts n T) : Aut n T (mapL n fun i => i) :=
  ⟨val_map h (fun _ hk => hk) (fun _ _ _ _ e => e) (fun _ _ _ _ _ => rfl), mapL_len _ _⟩
theorem aut_comp {n : Nat} {T : Nat → Nat → Nat} (h : Sts n T) {M K : List Int} (hM : Aut n T M) (hK : Aut n T K) : Aut n T (mapL n fun i => im M (im K i)) := by
  have hml := hM.l; have hkl := hK.l
  refine ⟨val_map h (fun k hk => ?_) (fun j k hj hk e => ?_) (fun a b ha hb hab => ?_), mapL_len _ _⟩
  · exact (hM.v.rng _ (by rw [hml]; exact (hK.v.rng k (by omega)).1)).1
  · have r1 := (hK.v.rng j (by omega)).1; have r2 := (hK.v.rng k (by omega)).1
    exact hK.v.inj j k (by omega) (by omega) (hM.v.inj _ _ (by omega) (by omega) e)
  · have r1 := (hK.v.rng a (by omega)).1; have r2 := (hK.v.rng b (by omega)).1
    have hr := (h.rng a b ha hb hab).1
    have hne : im K a ≠ im K b := fun e => hab (hK.v.inj a b (by omega) (by omega) e)
    have e1 := hK.v.hom a b (by omega) (by omega) hab (by omega)
    have e2 := hM.v.hom (im K a) (im K b) (by omega) (by omega) hne (by have := (h.rng _ _ r1 r2 hne).1; omega)
    show T (im M (im K a)) (im M (im K b)) = im M (im K (T a b))
    rw [e2, e1]
theorem aut_inv {n : Nat} {T : Nat → Nat → Nat} (h : Sts n T) {M : List Int} (hM : Aut n T M) : Aut n T (mapL n (invF M n)) := by
  have hml := hM.l
  refine ⟨val_map h (fun k hk => (invF_is hM.v hM.l hk).1) (fun j k hj hk e => ?_) (fun a b ha hb hab => ?_), mapL_len _ _⟩
  · rw [← (invF_is hM.v hM.l hj).2, ← (invF_is hM.v hM.l hk).2, e]
  · obtain ⟨r1, e1⟩ := invF_is hM.v hM.l ha
    obtain ⟨r2, e2⟩ := invF_is hM.v hM.l hb
    have hne : invF M n a ≠ invF M n b := fun e => hab (by rw [← e1, ← e2, e])
    have hr := (h.rng _ _ r1 r2 hne).1
    have hr2 := (h.rng a b ha hb hab).1
    obtain ⟨r3, e3⟩ := invF_is hM.v hM.l hr2
    have e4 := hM.v.hom _ _ (by omega) (by omega) hne (by omega)
    rw [e1, e2] at e4
    exact hM.v.inj _ _ (by omega) (by omega) (by rw [e3, e4])
/-! Orbits of a relation. -/
/-- the numbers in relation to one -/
def relL (R : Nat → Nat → Bool) (n p : Nat) : List Int := ((List.range n).filter (R p)).map fun (q : Nat) => (q : Int)
/-- is one in relation to a lesser one -/
noncomputable def lessB (R : Nat → Nat → Bool) (p : Nat) : Bool := open Classical in decide (∃ q, q < p ∧ R p q = true)
noncomputable def orbL (R : Nat → Nat → Bool) (n : Nat) : Nat → List (List Int)
  | 0 => []
  | k + 1 => orbL R n k ++ (if lessB R k = true then [] else [relL R n k])
structure Eqv (R : Nat → Nat → Bool) (n : Nat) : Prop where
  rfl_ : ∀ p, p < n → R p p = true
  sym : ∀ p q, p < n → q < n → R p q = true → R q p = true
  tr : ∀ p q r, p < n → q < n → r < n → R p q = true → R q r = true → R p r = true
/-- what has been met before the k-th number -/
noncomputable def metB (R : Nat → Nat → Bool) (k q : Nat) : Bool := open Classical in decide (∃ p, p < k ∧ R p q = true)
theorem metB_iff {R : Nat → Nat → Bool} {k q : Nat} : metB R k q = true ↔ ∃ p, p < k ∧ R p q = true := by unfold metB; simp
theorem lessB_iff {R : Nat → Nat → Bool} {p : Nat} : lessB R p = true ↔ ∃ q, q < p ∧ R p q = true := by unfold lessB; simp
theorem met_less {R : Nat → Nat → Bool} {n k : Nat} (h : Eqv R n) (hk : k < n) : metB R k k = lessB R k := by
  rw [Bool.eq_iff_iff, metB_iff, lessB_iff]
  constructor
  · rintro ⟨p, hp, hR⟩; exact ⟨p, hp, h.sym p k (by omega) hk hR⟩
  · rintro ⟨p, hp, hR⟩; exact ⟨p, hp, h.sym k p hk (by omega) hR⟩
theorem met_step {R : Nat → Nat → Bool} {n k q : Nat} (h : Eqv R n) (hk : k < n) (hq : q < n) : metB R (k + 1) q = (metB R k q || (!lessB R k && R k q)) := by
  rw [Bool.eq_iff_iff, Bool.or_eq_true, metB_iff, metB_iff, Bool.and_eq_true, Bool.not_eq_true', ← met_less h hk]
  constructor
  · rintro ⟨p, hp, hR⟩
    by_cases e : p = k
    · subst e
      cases hm : metB R p p
      · exact .inr ⟨rfl, hR⟩
      · obtain ⟨p', hp', hR'⟩ := metB_iff.1 hm
        exact .inl ⟨p', hp', h.tr p' p q (by omega) hk hq hR' hR⟩
    · exact .inl ⟨p, by omega, hR⟩
  · rintro (⟨p, hp, hR⟩ | ⟨_, hR⟩)
    · exact ⟨p, by omega, hR⟩
    · exact ⟨k, by omega, hR⟩
theorem relL_len (R : Nat → Nat → Bool) (n p : Nat) : (relL R n p).length ≤ n := by
  unfold relL
  rw [List.length_map]
  have := List.length_filter_le (R p) (List.range n)
  simpa using this
theorem relL_succ (R : Nat → Nat → Bool) (n p : Nat) : relL R (n + 1) p = relL R n p ++ (if R p n = true then [(n : Int)] else []) := by
  unfold relL
  rw [List.range_succ, List.filter_append, List.map_append]
  congr 1
  by_cases h : R p n = true
  · rw [if_pos h, List.filter_cons_of_pos h]; rfl
  · rw [if_neg h, List.filter_cons_of_neg h]; rfl
theorem orbL_len (R : Nat → Nat → Bool) (n k : Nat) : (orbL R n k).length ≤ k := by
  induction k with
  | zero => simp [orbL]
  | succ k ih => rw [orbL, List.length_append]; split <;> simp <;> omega
theorem orbL_mem {R : Nat → Nat → Bool} {n k : Nat} {l : List Int} (h : l ∈ orbL R n k) : ∃ p, p < k ∧ l = relL R n p := by
  induction k with
  | zero => simp [orbL] at h
  | succ k ih =>
    rw [orbL, List.mem_append] at h
    rcases h with h | h
    · obtain ⟨p, hp, e⟩ := ih h; exact ⟨p, by omega, e⟩
    · split at h
      · simp at h
      · exact ⟨k, by omega, by simpa using h⟩
/-! Renumberings that go around. -/
theorem round_succ (L : List Int) : ∀ k a, roundFrom L (k + 1) a = nthI L (roundFrom L k a).toNat := by
  intro k
  induction k with
  | zero => intro a; rfl
  | succ k ih => intro a; rw [roundFrom, ih]; rfl
def itN (L : List Int) (k : Nat) : Nat := (roundFrom L k 0).toNat
theorem itN_zero (L : List Int) : itN L 0 = 0 := rfl
theorem itN_succ (L : List Int) (k : Nat) : itN L (k + 1) = im L (itN L k) := by unfold itN; rw [round_succ]; rfl
noncomputable def goB (L : List Int) : Bool := open Classical in decide ((∀ j, 1 ≤ j → j < L.length → itN L j ≠ 0) ∧ itN L L.length = 0)
theorem goB_iff {L : List Int} : goB L = true ↔ (∀ j, 1 ≤ j → j < L.length → itN L j ≠ 0) ∧ itN L L.length = 0 := by unfold goB; simp
theorem itN_lt {n : Nat} {T1 T2 : Nat → Nat → Nat} {L : List Int} (h : Val n T1 T2 L) (hl : L.length = n) (hn : 0 < n) : ∀ k, itN L k < n := by
  intro k
  induction k with
  | zero => exact hn
  | succ k ih => rw [itN_succ]; exact (h.rng _ (by omega)).1
theorem itN_back {n : Nat} {T1 T2 : Nat → Nat → Nat} {L : List Int} (h : Val n T1 T2 L) (hl : L.length = n) (hn : 0 < n) : ∀ i d, itN L i = itN L (i + d) → itN L d = 0 := by
  intro i
  induction i with
  | zero => intro d e; rw [Nat.zero_add] at e; rw [← e]; rfl
  | succ i ih =>
    intro d e
    rw [Nat.add_right_comm, itN_succ, itN_succ] at e
    have h1 := itN_lt h hl hn i; have h2 := itN_lt h hl hn (i + d)
    exact ih d (h.inj _ _ (by omega) (by omega) e)
theorem around_lt {n : Nat} {T1 T2 : Nat → Nat → Nat} {L : List Int} (h : Val n T1 T2 L) (hl : L.length = n) (hn : 0 < n) {m : Nat} (hm : ∀ j, 1 ≤ j → j ≤ m → itN L j ≠ 0) : m < n := by
  have hnd : ((List.range (m + 1)).map (itN L)).Nodup := by
    rw [List.nodup_iff_pairwise_ne, List.pairwise_map]
    have hp : (List.range (m + 1)).Pairwise (· < ·) := List.pairwise_lt_range
    refine List.Pairwise.imp_of_mem (fun {a b} ha hb hlt e => ?_) hp
    have h1 := List.mem_range.1 ha; have h2 := List.mem_range.1 hb
    obtain ⟨d, rfl⟩ : ∃ d, b = a + d := ⟨b - a, by omega⟩
    exact hm d (by omega) (by omega) (itN_back h hl hn a d e)
  have := nodup_lt n _ hnd (by
    intro x hx
    obtain ⟨k, _, rfl⟩ := List.mem_map.1 hx
    exact itN_lt h hl hn k)
  simp at this; omega
theorem around_is {L : List Int} {m : Nat} (hm : ∀ j, 1 ≤ j → j < m → itN L j ≠ 0) (h1 : 1 ≤ m) (h0 : itN L m = 0) (hl : 1 ≤ L.length) : decide ((m : Int) = (L.length : Int)) = goB L := by
  rw [Bool.eq_iff_iff, decide_eq_true_eq, goB_iff]
  constructor
  · intro e
    have e' : m = L.length := by omega
    subst e'; exact ⟨hm, h0⟩
  · rintro ⟨k1, k2⟩
    have h2 : ¬ m < L.length := fun h => k1 m h1 h h0
    have h3 : ¬ L.length < m := fun h => hm _ hl h k2
    omega

end Go.Proofs.Ytabgmjakkgalgaa

/- Words for the reference's search for renumberings in memory; conditions: none. -/
namespace Go.Proofs.Ytabgmjakkgalgaa
open Go.RowKit

section
variable {P : Program} (w : World)
/-- append of any number of elements to a row of the call's own, at a step of a region that draws. -/
theorem step_append_at {ops : Array Oper} {o : Oper} {a : Act} {K : Act → World → Prop} {Q : Exit → Act → World → Prop} {E : Prop} (hgd : o.guard = none) (s x : Operand) (t : TypeId)
    (ho : o.op = .call { callee := .builtin .append, args := #[s, x], argTypes := #[t, t] })
    (base : Nat) (e : TypeId) (i : TypeInfo) (z : Value) (size bytes : Nat) (ht : P.underlying t = some (.slice e)) (hi : P.info? e = some i) (hz : i.zero = some z)
    (hsize : i.size = size) (hby : i.bytes = bytes) (hzs : z.cells.size = size) (hsz : 0 < size)
    (v : Value) (n : Nat) (xs : List Value) (hs : a.eval s = v) (hown : w.ownsRow base e size v n xs)
    (ad : Addr) (m c : Nat) (news : List Value) (hx : a.eval x = .slice (some ad) m c) (hl : news.length = m * size) (hnews : ∀ j u, news[j]? = some u → w.cell? (ad.add j) = some u) (h1 : ∀ u ∈ news, u.oneCell' = true)
    (h63 : n + m ≤ maxLen) (hbytes : (n + m) * bytes ≤ 140737488355328) (hbase : base ≤ w.heap.size)
    (h : ∀ v' w', w'.ownsRow base e size v' (n + m) (xs ++ news) → w.grownBy w' v.ownBlock → (v'.ownBlock = v.ownBlock ∨ v'.ownBlock = some w.heap.size) → K (a.put o.dst v') w') :
    if Region.wanted o (yielded ops a.tmps) = true then Oper.wp P o a w K Q else E := by
  have hw : Region.wanted o (yielded ops a.tmps) = true := by simp [Region.wanted, hgd]
  rw [if_pos hw]
  obtain ⟨v', w', hr, h2, h3, _, h5⟩ := run_append_own_at (P := P) w base t o.type e i z size bytes ht hi hz hsize hby hzs hsz v n xs hown ad m c news hl hnews h1 h63 hbytes hbase
  unfold Oper.wp execOp
  simp only [ho, resolve, invoke, builtin, Sem.run_bind, Sem.run_pure, Result.andThen_ok, List.map_toArray, List.map_cons, List.map_nil, hs, hx, hr]
  exact h v' w' h2 h3 h5
end

/-- u is a row of its own (above b1) of the headers of lists that are rows of their own (above b2) -/
def LLp (w : World) (b1 b2 : Nat) (u : Value) (xss : List (List Int)) : Prop :=
  ∃ vs, w.ownsRow b1 36 1 u xss.length vs ∧ ∀ k, k < xss.length → ∃ h, vs[k]? = some h ∧ Ro w b2 h (nthLL xss k) ∧ ∀ b, h.ownBlock = some b → u.ownBlock ≠ some b
theorem LLp.below {w w' : World} {b1 b2 : Nat} {u : Value} {xss : List (List Int)} (h : LLp w b1 b2 u xss) (hb : Below w.heap.size w w') : LLp w' b1 b2 u xss := by
  obtain ⟨vs, ho, hi⟩ := h
  refine ⟨vs, own_below ho hb, fun k hk => ?_⟩
  obtain ⟨r, h1, h2, h3⟩ := hi k hk
  exact ⟨r, h1, h2.below hb, h3⟩
theorem LLp.lt {w : World} {b1 b2 : Nat} {u : Value} {xss : List (List Int)} (h : LLp w b1 b2 u xss) : ∀ b, u.ownBlock = some b → b1 ≤ b ∧ b < w.heap.size := by
  obtain ⟨vs, ho, _⟩ := h
  intro b hb
  exact ho.lt b hb
theorem LLp.llq {w : World} {b1 b2 : Nat} {u : Value} {xss : List (List Int)} (h : LLp w b1 b2 u xss) (hb : b1 ≤ b2) : LLq w b1 u xss := by
  obtain ⟨vs, ho, hi⟩ := h
  refine ⟨vs, ho, fun k hk => ?_⟩
  obtain ⟨r, h1, h2, h3⟩ := hi k hk
  exact ⟨r, h1, own_base h2 hb, h3⟩
theorem LLp.slice {w : World} {b1 b2 : Nat} {u : Value} {xss : List (List Int)} (h : LLp w b1 b2 u xss) : ∃ A c, u = .slice A xss.length c := by
  obtain ⟨vs, ho, _⟩ := h
  exact own_slice ho
theorem LLp.snoc {w w1 w2 : World} {b1 b2 : Nat} {u v2 r : Value} {xss : List (List Int)} {vs : List Value} {xs : List Int}
    (hi : ∀ k, k < xss.length → ∃ h, vs[k]? = some h ∧ Ro w b2 h (nthLL xss k) ∧ ∀ b, h.ownBlock = some b → u.ownBlock ≠ some b) (hv : vs.length = xss.length) (hB : Ro w b2 r xs) (hf : ∀ b, r.ownBlock = some b → u.ownBlock ≠ some b)
    (hb : Below w.heap.size w w1) (hg : w1.grownBy w2 u.ownBlock) (ho : w2.ownsRow b1 36 1 v2 (xss.length + 1) (vs ++ [r])) (hat : v2.ownBlock = u.ownBlock ∨ v2.ownBlock = some w1.heap.size) :
    LLp w2 b1 b2 v2 (xss ++ [xs]) := by
  have key : ∀ {h : Value} {ys : List Int}, Ro w b2 h ys → (∀ b, h.ownBlock = some b → u.ownBlock ≠ some b) → Ro w2 b2 h ys ∧ ∀ b, h.ownBlock = some b → v2.ownBlock ≠ some b := by
    intro h ys h1 h2
    refine ⟨(h1.below hb).grown hg h2, fun b e => ?_⟩
    rcases hat with h' | h'
    · rw [h']; exact h2 b e
    · rw [h']; intro e2
      simp only [Option.some.injEq] at e2
      have := (h1.lt b e).2; have := hb.size; omega
  refine ⟨vs ++ [r], by rw [List.length_append]; exact ho, fun k hk => ?_⟩
  rw [List.length_append, List.length_singleton] at hk
  by_cases hkl : k < xss.length
  · obtain ⟨h, h1, h2, h3⟩ := hi k hkl
    have e : nthLL (xss ++ [xs]) k = nthLL xss k := by simp [nthLL, List.getElem?_append_left hkl]
    rw [e]
    exact ⟨h, by rw [List.getElem?_append_left (by omega)]; exact h1, key h2 h3⟩
  · obtain rfl : k = xss.length := by omega
    have e : nthLL (xss ++ [xs]) xss.length = xs := by simp [nthLL]
    rw [e]
    exact ⟨r, by rw [← hv]; simp, key hB hf⟩
theorem LLp.grown {w w' : World} {b1 b2 s : Nat} {u : Value} {xss : List (List Int)} (h : LLp w b1 b2 u xss) (hg : w.grownBy w' (some s)) (hs : s < b2) (hu : u.ownBlock ≠ some s) : LLp w' b1 b2 u xss := by
  obtain ⟨vs, ho, hi⟩ := h
  refine ⟨vs, World.ownsRow.kept ho hg (.inr hu), fun k hk => ?_⟩
  obtain ⟨r, h1, h2, h3⟩ := hi k hk
  refine ⟨r, h1, h2.grown hg fun b e e2 => ?_, h3⟩
  simp only [Option.some.injEq] at e2
  have := (h2.lt b e).1; omega

/-- the cells of the reference's search -/
def gVals (g1 g2 n most : Nat) (u : Value) (ar : Bool) : Array Value := #[.slice (some ⟨g1, 0, none⟩) 256 256, .slice (some ⟨g2, 0, none⟩) 256 256, .int .i64 n, .int .i64 most, u, .bool ar]
/-- but for the block s and the row of v all is as it was; u is that row, or a new one -/
structure Gs (w w' : World) (s : Nat) (v u : Value) : Prop where
  os : w'.os = w.os
  tape : w'.tape = w.tape
  output : w'.output = w.output
  size : w.heap.size ≤ w'.heap.size
  block : ∀ k, k < w.heap.size → k ≠ s → v.ownBlock ≠ some k → w'.heap[k]? = w.heap[k]?
  at_ : u.ownBlock = v.ownBlock ∨ ∃ b, u.ownBlock = some b ∧ w.heap.size ≤ b
theorem Gs.refl (w : World) (s : Nat) (v : Value) : Gs w w s v v := ⟨rfl, rfl, rfl, Nat.le_refl _, fun _ _ _ _ => rfl, .inl rfl⟩
theorem Gs.below {w a b : World} {s : Nat} {v u : Value} (h : Gs w a s v u) (hb : Below a.heap.size a b) : Gs w b s v u :=
  ⟨hb.os.trans h.os, hb.tape.trans h.tape, hb.output.trans h.output, Nat.le_trans h.size hb.size, fun k hk h1 h2 => (hb.block k (Nat.lt_of_lt_of_le hk h.size)).trans (h.block k hk h1 h2), h.at_⟩
theorem Gs.join {w a b : World} {s : Nat} {v u x : Value} (h : Gs w a s v u) (k : Gs a b s u x) : Gs w b s v x := by
  refine ⟨k.os.trans h.os, k.tape.trans h.tape, k.output.trans h.output, Nat.le_trans h.size k.size, fun i hi h1 h2 => ?_, ?_⟩
  · rw [← h.block i hi h1 h2]
    refine k.block i (Nat.lt_of_lt_of_le hi h.size) h1 fun e => ?_
    rcases h.at_ with e2 | ⟨q, e2, hq⟩
    · rw [e2] at e; exact h2 e
    · rw [e2] at e; simp only [Option.some.injEq] at e; omega
  · rcases k.at_ with e | ⟨q, e, hq⟩
    · rw [e]; exact h.at_
    · exact .inr ⟨q, e, Nat.le_trans h.size hq⟩
theorem Gs.ne {w a : World} {s : Nat} {v u : Value} (h : Gs w a s v u) {k : Nat} (hk : k < w.heap.size) (hv : v.ownBlock ≠ some k) : u.ownBlock ≠ some k := by
  rcases h.at_ with e | ⟨q, e, hq⟩
  · rw [e]; exact hv
  · rw [e]; simp only [ne_eq, Option.some.injEq]; omega
theorem Gs.out {w a : World} {s B : Nat} {v u : Value} (h : Gs w a s v u) (hB : B ≤ w.heap.size) (hs : B ≤ s) (hv : ∀ b, v.ownBlock = some b → B ≤ b) : Below B w a :=
  ⟨h.os, h.tape, h.output, h.size, fun k hk => h.block k (by omega) (by omega) (fun e => by have := hv k e; omega)⟩
theorem Gs.row {w a : World} {s g : Nat} {v u : Value} {t : TypeId} {cur : Array Value} (h : Gs w a s v u) (hR : Row w g t cur) (h1 : g ≠ s) (h2 : v.ownBlock ≠ some g) : Row a g t cur := (h.block g hR.lt h1 h2).trans hR
theorem Gs.grown {w a b : World} {s : Nat} {v u x : Value} (h : Gs w a s v u) (hg : a.grownBy b u.ownBlock) (hx : x.ownBlock = u.ownBlock ∨ ∃ q, x.ownBlock = some q ∧ a.heap.size ≤ q) : Gs w b s v x :=
  h.join ⟨hg.os, hg.tape, hg.output, hg.size, fun k hk _ h2 => hg.block k hk (fun e => h2 e.symm), hx⟩
theorem Gs.set {w a : World} {s : Nat} {v u : Value} (h : Gs w a s v u) (i : Nat) (x : Value) : Gs w (a.setCell ⟨s, i, none⟩ x) s v u := by
  refine h.join ⟨rfl, rfl, rfl, by simp [World.setCell], fun k hk h1 _ => Below.heap_setCell _ _ _ _ h1, .inl rfl⟩
theorem Gs.ro {w a : World} {s bl : Nat} {v u un : Value} {L : List Int} (h : Gs w a s v u) (hR : Ro w bl un L) (h1 : un.ownBlock ≠ some s) (h2 : ∀ b, un.ownBlock = some b → v.ownBlock ≠ some b) : Ro a bl un L := by
  refine ⟨hR.1, ?_⟩
  rcases hR.2 with h' | ⟨g, cap, cur, hv, hg, hrow, r⟩
  · exact .inl h'
  · have e : un.ownBlock = some g := by rw [hv]; rfl
    exact .inr ⟨g, cap, cur, hv, hg, h.row hrow (fun e2 => h1 (by rw [e, e2])) (h2 g e), r⟩
/-! Searches whose finds are sifted. -/
theorem loop_filter {f : Nat → List (List Int)} {p : Nat → Bool} {a : Nat} (q : List Int → Bool) : ∀ m, (loopL f p a m).filter q = loopL (fun i => (f i).filter q) p a m := by
  intro m
  induction m with
  | zero => rfl
  | succ m ih => rw [loopL, loopL, List.filter_append, ih]; congr 1; split <;> simp

end Go.Proofs.Ytabgmjakkgalgaa

/- Lists of lists whose lists lie in different blocks; conditions: none. -/
namespace Go.Proofs.Ytabgmjakkgalgaa
open Go.RowKit
set_option linter.unusedSimpArgs false
set_option linter.unusedVariables false

theorem own_typed {w : World} {base size n sb : Nat} {t ts : TypeId} {u : Value} {xs : List Value} (h : w.ownsRow base t size u n xs) (hs : ∃ cur, Row w sb ts cur) (ht : t ≠ ts) : u.ownBlock ≠ some sb := by
  intro e
  obtain ⟨cur, hc⟩ := hs
  rcases h.2 with ⟨rfl, _⟩ | ⟨g, cap, cur2, rfl, _, hg, _⟩
  · simp [Value.ownBlock] at e
  · simp [Value.ownBlock] at e
    subst e
    unfold Row at hc
    rw [hc] at hg
    simp only [Option.some.injEq, Obj.cells.injEq] at hg
    exact absurd hg.2.1.symm ht
/-- u is a row of lists, all in different blocks -/
def LLd (w : World) (base : Nat) (u : Value) (xss : List (List Int)) : Prop :=
  ∃ hs : Nat → Value, w.ownsRow base 36 1 u xss.length ((List.range xss.length).map hs) ∧ (∀ k, k < xss.length → Ro w base (hs k) (nthLL xss k) ∧ ∀ b, (hs k).ownBlock = some b → u.ownBlock ≠ some b) ∧ ∀ j k, j < xss.length → k < xss.length → j ≠ k → ∀ b, (hs j).ownBlock = some b → (hs k).ownBlock ≠ some b
theorem LLd.llq {w : World} {base : Nat} {u : Value} {xss : List (List Int)} (h : LLd w base u xss) : LLq w base u xss := by
  obtain ⟨hs, ho, hi, _⟩ := h
  exact ⟨_, ho, fun k hk => ⟨hs k, by simp [hk], (hi k hk).1, (hi k hk).2⟩⟩
theorem LLd.below {w w' : World} {base : Nat} {u : Value} {xss : List (List Int)} (h : LLd w base u xss) (hb : Below w.heap.size w w') : LLd w' base u xss := by
  obtain ⟨hs, ho, hi, hd⟩ := h
  exact ⟨hs, own_below ho hb, fun k hk => ⟨(hi k hk).1.below hb, (hi k hk).2⟩, hd⟩
theorem LLd.slice {w : World} {base : Nat} {u : Value} {xss : List (List Int)} (h : LLd w base u xss) : ∃ A c, u = .slice A xss.length c := h.llq.slice
theorem LLd.base {w : World} {base b' : Nat} {u : Value} {xss : List (List Int)} (h : LLd w base u xss) (hb : b' ≤ base) : LLd w b' u xss := by
  obtain ⟨hs, ho, hi, hd⟩ := h
  exact ⟨hs, own_base ho hb, fun k hk => ⟨own_base (hi k hk).1 hb, (hi k hk).2⟩, hd⟩
theorem LLd.nil (w : World) (base : Nat) : LLd w base (.slice none 0 0) [] := ⟨fun _ => .slice none 0 0, World.ownsRow_nil _ _ _ _, fun k hk => by simp at hk, fun j k hj => by simp at hj⟩
theorem LLd.own_lt {w : World} {base : Nat} {u : Value} {xss : List (List Int)} (h : LLd w base u xss) : ∀ b, u.ownBlock = some b → base ≤ b ∧ b < w.heap.size := h.llq.own_lt
theorem LLd.kept {w w' : World} {base s : Nat} {ts : TypeId} {u : Value} {xss : List (List Int)} (h : LLd w base u xss) (hg : w.grownBy w' (some s)) (hs : ∃ cur, Row w s ts cur) (h1 : (36 : TypeId) ≠ ts) (h2 : (2 : TypeId) ≠ ts) : LLd w' base u xss := by
  obtain ⟨hs', ho, hi, hd⟩ := h
  exact ⟨hs', World.ownsRow.kept ho hg (.inr (own_typed ho hs h1)), fun k hk => ⟨World.ownsRow.kept (hi k hk).1 hg (.inr (own_typed (hi k hk).1 hs h2)), (hi k hk).2⟩, hd⟩
/-- the row's headers -/
theorem LLd.vs {w : World} {base : Nat} {u : Value} {xss : List (List Int)} (h : LLd w base u xss) : ∃ vs, w.ownsRow base 36 1 u xss.length vs ∧ vs.length = xss.length ∧ ∀ (w1 w2 : World) (r v2 : Value) (xs : List Int), Below w.heap.size w w1 → Ro w1 base r xs → (∀ b, r.ownBlock = some b → w.heap.size ≤ b) →
    ∀ w1', Below w1.heap.size w1 w1' → w1'.grownBy w2 u.ownBlock → w2.ownsRow base 36 1 v2 (xss.length + 1) (vs ++ [r]) → (v2.ownBlock = u.ownBlock ∨ v2.ownBlock = some w1'.heap.size) → LLd w2 base v2 (xss ++ [xs]) := by
  obtain ⟨hs, ho, hi, hd⟩ := h
  refine ⟨_, ho, by simp, fun w1 w2 r v2 xs hb hr hfr w1' hb' hg hown hat => ?_⟩
  have old : ∀ k, k < xss.length → ∀ b, (hs k).ownBlock = some b → b < w.heap.size := fun k hk b e => ((hi k hk).1.lt b e).2
  have oldu : ∀ b, u.ownBlock = some b → b < w.heap.size := fun b e => (ho.lt b e).2
  have hsz := hb.size; have hsz' := hb'.size
  have hrlt : ∀ b, r.ownBlock = some b → b < w1.heap.size := fun b e => (hr.lt b e).2
  refine ⟨updA hs xss.length r, ?_, fun k hk => ?_, fun j k hj hk hjk b e => ?_⟩
  · rw [List.length_append, List.length_singleton, List.range_succ, List.map_append]
    have e1 : (List.range xss.length).map (updA hs xss.length r) = (List.range xss.length).map hs := List.map_congr_left fun i hi2 => updA_ne hs r (by have := List.mem_range.1 hi2; omega)
    rw [e1]
    simpa [updA_same] using hown
  · rw [List.length_append, List.length_singleton] at hk
    have hne : ∀ {x : Value}, (∀ b, x.ownBlock = some b → b < w1'.heap.size) → (∀ b, x.ownBlock = some b → u.ownBlock ≠ some b) → ∀ b, x.ownBlock = some b → v2.ownBlock ≠ some b := by
      intro x hx1 hx2 b e
      rcases hat with h | h
      · rw [h]; exact hx2 b e
      · rw [h]; intro e2; simp only [Option.some.injEq] at e2; have := hx1 b e; omega
    by_cases ek : k = xss.length
    · subst ek
      rw [updA_same]
      have e2 : nthLL (xss ++ [xs]) xss.length = xs := by simp [nthLL]
      rw [e2]
      have hru : ∀ b, r.ownBlock = some b → u.ownBlock ≠ some b := fun b e e3 => by have := hfr b e; have := oldu b e3; omega
      exact ⟨(hr.below hb').grown hg (fun b e e3 => hru b e e3), hne (fun b e => by have := hrlt b e; omega) hru⟩
    · have hk2 : k < xss.length := by omega
      rw [updA_ne _ _ ek]
      have e2 : nthLL (xss ++ [xs]) k = nthLL xss k := by simp [nthLL, List.getElem?_append_left hk2]
      rw [e2]
      exact ⟨(((hi k hk2).1.below hb).below hb').grown hg (fun b e e3 => (hi k hk2).2 b e e3), hne (fun b e => by have := old k hk2 b e; omega) (hi k hk2).2⟩
  · rw [List.length_append, List.length_singleton] at hj hk
    by_cases ej : j = xss.length
    · subst ej
      rw [updA_same] at e
      rw [updA_ne _ _ (Ne.symm hjk)]
      intro e2; have := hfr b e; have := old k (by omega) b e2; omega
    · rw [updA_ne _ _ ej] at e
      by_cases ek : k = xss.length
      · subst ek
        rw [updA_same]
        intro e2; have := hfr b e2; have := old j (by omega) b e; omega
      · rw [updA_ne _ _ ek]; exact hd j k (by omega) (by omega) hjk b e

/-- a list of a list of lists, to be read -/
theorem LLq.rd {w : World} {base : Nat} {A : Option Addr} {n c : Nat} {xss : List (List Int)} (h : LLq w base (.slice A n c) xss) {k : Nat} (hk : k < xss.length) :
    ∃ g B d, A = some ⟨g, 0, none⟩ ∧ g < w.heap.size ∧ w.cell? ⟨g, k, none⟩ = some (.slice B (nthLL xss k).length d) ∧ Il w B (nthLL xss k) := by
  obtain ⟨g, r, hA, hg, hc, hR⟩ := h.at_ hk
  obtain ⟨B, d, rfl, hI, _⟩ := hR.il
  exact ⟨g, B, d, hA, hg, hc, hI⟩

end Go.Proofs.Ytabgmjakkgalgaa

/- Plain laws of the greatest sets of disjoint blocks. Conditions: none. -/
namespace Go.Proofs.Ytabgmjakkgalgaa

/-- all sets that go on from one, by up to d more blocks, a set ahead of those that go on from it -/
noncomputable def allL (xs : List Blk) : Nat → List Int → List (List Int)
  | 0, now => [now]
  | d + 1, now => now :: loopL (fun i => allL xs d (now ++ [(i : Int)])) (okI xs now) (fromI now) xs.length
def betterL (b l : List Int) : List Int := if b.length < l.length then l else b
def mostF (b : List Int) (L : List (List Int)) : List Int := L.foldl betterL b
theorem mostF_app (b : List Int) (L M : List (List Int)) : mostF b (L ++ M) = mostF (mostF b L) M := by simp [mostF]
theorem mostF_cons (b l : List Int) (M : List (List Int)) : mostF b (l :: M) = mostF (betterL b l) M := rfl
theorem mostF_nil (b : List Int) : mostF b [] = b := rfl
theorem mostF_stay {b : List Int} : ∀ {L : List (List Int)}, (∀ l ∈ L, l.length ≤ b.length) → mostF b L = b := by
  intro L
  induction L with
  | nil => intro _; rfl
  | cons l L ih =>
    intro h
    have h1 := h l (by simp)
    have : betterL b l = b := by unfold betterL; rw [if_neg (by omega)]
    rw [mostF_cons, this, ih (fun l hl => h l (by simp [hl]))]
theorem mostF_ge (b : List Int) : ∀ L : List (List Int), b.length ≤ (mostF b L).length := by
  intro L
  induction L generalizing b with
  | nil => exact Nat.le_refl _
  | cons l L ih =>
    have h1 : b.length ≤ (betterL b l).length := by unfold betterL; split <;> omega
    exact Nat.le_trans h1 (ih _)
theorem loopL_mem {f : Nat → List (List Int)} {p : Nat → Bool} {a : Nat} : ∀ {m : Nat} {l : List Int}, l ∈ loopL f p a m → ∃ i, a ≤ i ∧ i < m ∧ p i = true ∧ l ∈ f i := by
  intro m
  induction m with
  | zero => intro l h; simp [loopL] at h
  | succ m ih =>
    intro l h
    rw [loopL, List.mem_append] at h
    rcases h with h | h
    · obtain ⟨i, h1, h2, h3⟩ := ih h; exact ⟨i, h1, by omega, h3⟩
    · by_cases e : a ≤ m ∧ p m = true
      · rw [if_pos e] at h; exact ⟨m, e.1, by omega, e.2, h⟩
      · rw [if_neg e] at h; simp at h
/-- the rounds from i on give nothing better -/
theorem loop_stop {f : Nat → List (List Int)} {p : Nat → Bool} {a i : Nat} {b c : List Int} (e : mostF b (loopL f p a i) = c) : ∀ n, i ≤ n → (∀ j, i ≤ j → j < n → a ≤ j → p j = true → ∀ l ∈ f j, l.length ≤ c.length) → mostF b (loopL f p a n) = c := by
  intro n
  induction n with
  | zero => intro hn _; obtain rfl : i = 0 := by omega
            exact e
  | succ n ih =>
    intro hn h
    by_cases hin : i = n + 1
    · subst hin; exact e
    · rw [loopL, mostF_app, ih (by omega) (fun j h1 h2 => h j h1 (by omega))]
      by_cases hc : a ≤ n ∧ p n = true
      · rw [if_pos hc]; exact mostF_stay (h n (by omega) (by omega) hc.1 hc.2)
      · rw [if_neg hc]; rfl
theorem blkAt_app {xs : List Blk} {now : List Int} {x : Int} {k : Nat} (h : k < now.length) : blkAt xs (now ++ [x]) k = blkAt xs now k := by rw [blkAt, blkAt, nthI_app h]
theorem blkAt_last (xs : List Blk) (now : List Int) (i : Nat) : blkAt xs (now ++ [(i : Int)]) now.length = nth xs i := by rw [blkAt, nthI_last]; rfl
theorem apart_snoc {v : Int} {xs : List Blk} (ha : areB v xs) {now : List Int} {i : Nat} (hr : risesI now xs.length) (hd : apart xs now now.length) (hi : i < xs.length) (ok : okI xs now i = true) : apart xs (now ++ [(i : Int)]) (now ++ [(i : Int)]).length := by
  unfold okI at ok
  simp only [decide_eq_true_eq] at ok
  intro a h1 b h2
  rw [List.length_append, List.length_singleton] at h1
  by_cases e : a = now.length
  · subst e
    rw [blkAt_last, blkAt_app h2, meetB_symm (ha i hi).1 (blkAt_good ha hr h2)]
    exact ok b h2
  · rw [blkAt_app (by omega), blkAt_app (by omega)]
    exact hd a (by omega) b h2
theorem three_le {v : Int} {xs : List Blk} (ha : areB v xs) {now : List Int} (hr : risesI now xs.length) (hd : apart xs now now.length) : 3 * now.length ≤ v.toNat := by
  rw [← uni_cnt ha hr hd now.length (Nat.le_refl _)]; exact cntF_le _ _
theorem all_bd {v : Int} {xs : List Blk} (ha : areB v xs) : ∀ d now, risesI now xs.length → apart xs now now.length → ∀ l ∈ allL xs d now, now.length ≤ l.length ∧ l.length ≤ now.length + d ∧ 3 * l.length ≤ v.toNat := by
  intro d
  induction d with
  | zero => intro now hr hd l hl; rw [allL, List.mem_singleton] at hl; subst hl; exact ⟨Nat.le_refl _, by omega, three_le ha hr hd⟩
  | succ d ih =>
    intro now hr hd l hl
    rw [allL, List.mem_cons] at hl
    rcases hl with rfl | hl
    · exact ⟨Nat.le_refl _, by omega, three_le ha hr hd⟩
    · obtain ⟨i, h1, h2, h3, h4⟩ := loopL_mem hl
      have := ih _ (rises_snoc hr h2 h1) (apart_snoc ha hr hd h2 h3) l h4
      rw [List.length_append, List.length_singleton] at this
      omega
theorem filter_loop {q : List Int → Bool} {f : Nat → List (List Int)} {p : Nat → Bool} {a : Nat} : ∀ m, (loopL f p a m).filter q = loopL (fun i => (f i).filter q) p a m := by
  intro m
  induction m with
  | zero => rfl
  | succ m ih =>
    rw [loopL, loopL, List.filter_append, ih]
    congr 1
    split <;> simp
theorem loopL_congr {f g : Nat → List (List Int)} {p : Nat → Bool} {a : Nat} : ∀ m, (∀ i, a ≤ i → i < m → p i = true → f i = g i) → loopL f p a m = loopL g p a m := by
  intro m
  induction m with
  | zero => intro _; rfl
  | succ m ih =>
    intro h
    rw [loopL, loopL, ih (fun i h1 h2 => h i h1 (by omega))]
    by_cases e : a ≤ m ∧ p m = true
    · rw [if_pos e, if_pos e, h m e.1 (by omega) e.2]
    · rw [if_neg e, if_neg e]
theorem loopL_empty {f : Nat → List (List Int)} {p : Nat → Bool} {a : Nat} : ∀ m, (∀ i, a ≤ i → i < m → p i = true → f i = []) → loopL f p a m = [] := by
  intro m
  induction m with
  | zero => intro _; rfl
  | succ m ih =>
    intro h
    rw [loopL, ih (fun i h1 h2 => h i h1 (by omega))]
    by_cases e : a ≤ m ∧ p m = true
    · rw [if_pos e, h m e.1 (by omega) e.2]; rfl
    · rw [if_neg e]; rfl
theorem dis_filter {v : Int} {xs : List Blk} (ha : areB v xs) : ∀ D d now, d ≤ D → risesI now xs.length → apart xs now now.length → (allL xs D now).filter (fun l => decide (l.length = now.length + d)) = disL xs d now := by
  intro D
  induction D with
  | zero => intro d now hd _ _; obtain rfl : d = 0 := by omega
            simp [allL, disL]
  | succ D ih =>
    intro d now hd hr hap
    cases d with
    | zero =>
      rw [allL, List.filter_cons, if_pos (by simp), filter_loop, loopL_empty, disL]
      intro i h1 h2 h3
      rw [List.filter_eq_nil_iff]
      intro l hl
      have := (all_bd ha D _ (rises_snoc hr h2 h1) (apart_snoc ha hr hap h2 h3) l hl).1
      rw [List.length_append, List.length_singleton] at this
      simp; omega
    | succ d =>
      rw [allL, List.filter_cons, if_neg (by simp), filter_loop, disL]
      refine loopL_congr _ fun i h1 h2 h3 => ?_
      rw [← ih d _ (by omega) (rises_snoc hr h2 h1) (apart_snoc ha hr hap h2 h3)]
      congr 1
      funext l
      rw [List.length_append, List.length_singleton]
      congr 1
      rw [eq_iff_iff]; omega
/-- the first one of each number, by ascending numbers, the last one that is there -/
noncomputable def bestK (xs : List Blk) : Nat → List Int
  | 0 => []
  | k + 1 => match disL xs (k + 1) [] with
    | [] => bestK xs k
    | l :: _ => l
theorem most_split {k : Nat} : ∀ {M : List (List Int)} {b : List Int}, b.length ≤ k → (∀ l ∈ M, l.length ≤ k + 1) →
    mostF b M = match M.filter (fun l => decide (l.length = k + 1)) with
      | [] => mostF b (M.filter (fun l => decide (l.length ≤ k)))
      | l :: _ => l := by
  intro M
  induction M with
  | nil => intro b _ _; rfl
  | cons l M ih =>
    intro b hb h
    have h1 := h l (by simp)
    by_cases e : l.length = k + 1
    · rw [List.filter_cons, if_pos (by simpa using e)]
      have : betterL b l = l := by unfold betterL; rw [if_pos (by omega)]
      rw [mostF_cons, this, mostF_stay (fun l' hl' => by have := h l' (by simp [hl']); omega)]
    · rw [List.filter_cons, if_neg (by simpa using e), mostF_cons, ih (b := betterL b l) (by unfold betterL; split <;> omega) (fun l' hl' => h l' (by simp [hl']))]
      have e2 : (l :: M).filter (fun l => decide (l.length ≤ k)) = l :: M.filter (fun l => decide (l.length ≤ k)) := by rw [List.filter_cons, if_pos (by simp; omega)]
      rw [e2, mostF_cons]
theorem best_most {v : Int} {xs : List Blk} (ha : areB v xs) (D : Nat) : ∀ k, k ≤ D → bestK xs k = mostF [] ((allL xs D []).filter (fun l => decide (l.length ≤ k))) := by
  intro k
  induction k with
  | zero =>
    intro _
    rw [bestK, mostF_stay]
    intro l hl
    have := (List.mem_filter.1 hl).2
    simpa using this
  | succ k ih =>
    intro hk
    have hr : risesI [] xs.length := fun k hk => by simp at hk
    have hap : apart xs [] 0 := fun i hi => by omega
    have hd := dis_filter ha D (k + 1) [] hk hr hap
    simp only [List.length_nil, Nat.zero_add] at hd
    rw [most_split (k := k) (by simp) (fun l hl => by have := (List.mem_filter.1 hl).2; simpa using this), List.filter_filter, List.filter_filter]
    have e1 : (allL xs D []).filter (fun a => decide (a.length = k + 1) && decide (a.length ≤ k + 1)) = disL xs (k + 1) [] := by
      rw [← hd]; congr 1; funext l; rw [Bool.eq_iff_iff]; simp; omega
    have e2 : (allL xs D []).filter (fun a => decide (a.length ≤ k) && decide (a.length ≤ k + 1)) = (allL xs D []).filter (fun l => decide (l.length ≤ k)) := by
      congr 1; funext l; rw [Bool.eq_iff_iff]; simp; omega
    rw [e1, e2, ← ih (by omega), bestK]
theorem best_all {v : Int} {xs : List Blk} (hs : isSys v xs) {D : Nat} (hD : v.toNat / 3 ≤ D) (hD5 : D ≤ 5) : bestK xs 5 = mostF [] (allL xs D []) := by
  have hr : risesI [] xs.length := fun k hk => by simp at hk
  have hap : apart xs [] 0 := fun i hi => by omega
  have hv := hs.1.2
  have key : ∀ k, (bestK xs (D + k)) = bestK xs D := by
    intro k
    induction k with
    | zero => rfl
    | succ k ih =>
      rw [← Nat.add_assoc, bestK]
      have h := dis_filter hs.2.2.1 (D + k + 1) (D + k + 1) [] (Nat.le_refl _) hr hap
      have : disL xs (D + k + 1) [] = [] := by
        rw [← h, List.filter_eq_nil_iff]
        intro l hl
        have := all_bd hs.2.2.1 _ _ hr hap l hl
        simp; omega
      rw [this]; exact ih
  have e := best_most hs.2.2.1 D D (Nat.le_refl _)
  have e2 : (allL xs D []).filter (fun l => decide (l.length ≤ D)) = allL xs D [] := by
    rw [List.filter_eq_self]
    intro l hl
    have := all_bd hs.2.2.1 _ _ hr hap l hl
    simp at this ⊢; omega
  rw [e2] at e
  rw [← e, ← key (5 - D)]
  congr 1
  omega

end Go.Proofs.Ytabgmjakkgalgaa

/- Plain laws of the classes: the sets by the least point that is left are the sets in order. Conditions: none. -/
namespace Go.Proofs.Ytabgmjakkgalgaa

/-- the least number from k on, of f tries, that is in all and not in m -/
def lowP (all m : Nat) : Nat → Nat → Nat
  | 0, k => k
  | f + 1, k => if all.testBit k && !m.testBit k then k else lowP all m f (k + 1)
theorem lowP_spec (all m : Nat) : ∀ f k p, k ≤ p → p < k + f → all.testBit p = true → m.testBit p = false → (∀ q, k ≤ q → q < p → ¬ (all.testBit q = true ∧ m.testBit q = false)) → lowP all m f k = p := by
  intro f
  induction f with
  | zero => intro k p h1 h2; omega
  | succ f ih =>
    intro k p h1 h2 h3 h4 h5
    rw [lowP]
    by_cases e : k = p
    · subst e; rw [if_pos (by simp [h3, h4])]
    · have h6 := h5 k (Nat.le_refl _) (by omega)
      rw [if_neg (by simp only [Bool.and_eq_true, Bool.not_eq_true']; exact h6)]
      exact ih (k + 1) p (by omega) (by omega) h3 h4 (fun q hq => h5 q (by omega))
def inA (all : Nat) (b : Blk) : Bool := maskB b &&& all == maskB b
/-- the sets that go on from one, by the least point that is left -/
noncomputable def clsL (xs : List Blk) (all : Nat) : Nat → List Int → Nat → List (List Int)
  | 0, now, m => if m = all then [now] else []
  | d + 1, now, m => if m = all then [now] else
      loopL (fun i => clsL xs all d (now ++ [(i : Int)]) (m ||| maskB (nth xs i))) (fun i => hasB (nth xs i) (lowP all m 15 0 : Nat) && (maskB (nth xs i) &&& m == 0) && inA all (nth xs i)) 0 xs.length
/-- the number of the sets in order -/
def cntA (xs : List Blk) (all : Nat) : Nat → Nat → Nat → Nat
  | 0, _, _ => 1
  | d + 1, m, a => loopS (fun i => cntA xs all d (m ||| maskB (nth xs i)) (i + 1)) (fun i => (maskB (nth xs i) &&& m == 0) && inA all (nth xs i)) a xs.length
/-- the points that are left -/
def left (all m : Nat) : Nat := cntF (fun j => all.testBit j && !m.testBit j) 15
theorem inA_iff {b : Blk} (hg : goodB 15 b = true) {all : Nat} : inA all b = true ↔ ∀ j : Nat, hasB b j = true → all.testBit j = true := by
  unfold inA
  rw [beq_iff_eq]
  constructor
  · intro h j hj
    have : (maskB b &&& all).testBit j = (maskB b).testBit j := by rw [h]
    rw [Nat.testBit_and, maskB_bit hg, hj] at this
    simpa using this
  · intro h
    apply Nat.eq_of_testBit_eq
    intro j
    rw [Nat.testBit_and, maskB_bit hg]
    cases hj : hasB b j
    · rfl
    · rw [h j hj]; rfl
theorem dj_iff {b : Blk} (hg : goodB 15 b = true) {m : Nat} : (maskB b &&& m == 0) = true ↔ ∀ j : Nat, hasB b j = true → m.testBit j = false := by
  rw [beq_iff_eq]
  constructor
  · intro h j hj
    have : (maskB b &&& m).testBit j = false := by rw [h]; simp
    rw [Nat.testBit_and, maskB_bit hg, hj] at this
    simpa using this
  · intro h
    apply Nat.eq_of_testBit_eq
    intro j
    rw [Nat.testBit_and, maskB_bit hg]
    cases hj : hasB b j
    · simp
    · rw [h j hj]; simp
theorem left_step {b : Blk} (hg : goodB 15 b = true) {all m : Nat} (hd : (maskB b &&& m == 0) = true) (hi : inA all b = true) : left all m = left all (m ||| maskB b) + 3 := by
  have h3 := cnt_blk hg (2 ^ 15 - 1)
  have hb := good_bd hg
  have e3 : cntF (fun j => hasB b j) 15 = 3 := by
    rw [cntF_has hg, if_pos (by omega), if_pos (by omega), if_pos (by omega)]
  have := cntF_or (f := fun j => all.testBit j && !(m ||| maskB b).testBit j) (g := fun j => hasB b j) (h := fun j => all.testBit j && !m.testBit j) 15 (fun j _ => by
    rw [Nat.testBit_or, maskB_bit hg]
    have h1 := (inA_iff hg).1 hi j
    have h2 := (dj_iff hg).1 hd j
    cases hj : hasB b j
    · simp
    · rw [h1 hj, h2 hj]; simp)
  unfold left
  omega
theorem left_zero {all m : Nat} (ha : all < 32768) (hm : m < 32768) (hsub : ∀ j, m.testBit j = true → all.testBit j = true) : left all m = 0 ↔ m = all := by
  have hbig : ∀ x j, x < 32768 → 15 ≤ j → x.testBit j = false := fun x j hx hj => Nat.testBit_lt_two_pow (Nat.lt_of_lt_of_le hx (by have : 2 ^ 15 ≤ 2 ^ j := Nat.pow_le_pow_right (by omega) hj; simpa using this))
  constructor
  · intro h
    apply Nat.eq_of_testBit_eq
    intro j
    by_cases hj : j < 15
    · have key : ∀ n, cntF (fun j => all.testBit j && !m.testBit j) n = 0 → ∀ j, j < n → (all.testBit j && !m.testBit j) = false := by
        intro n
        induction n with
        | zero => intro _ j hj; omega
        | succ n ih =>
          intro h j hj
          rw [cntF] at h
          by_cases e : j = n
          · subst e
            cases hh : (all.testBit j && !m.testBit j)
            · rfl
            · rw [hh] at h; simp at h
          · exact ih (by omega) j (by omega)
      have := key 15 h j hj
      cases hm1 : m.testBit j
      · rw [hm1] at this; simpa using this.symm
      · rw [hsub j hm1]
    · rw [hbig m j hm (by omega), hbig all j ha (by omega)]
  · rintro rfl
    unfold left
    have : ∀ n, cntF (fun j => m.testBit j && !m.testBit j) n = 0 := by
      intro n
      induction n with
      | zero => rfl
      | succ n ih => rw [cntF, ih]; cases m.testBit n <;> rfl
    exact this 15
theorem low_is {all m : Nat} (ha : all < 32768) (hm : m < 32768) (hsub : ∀ j, m.testBit j = true → all.testBit j = true) (hne : m ≠ all) : ∃ p, lowP all m 15 0 = p ∧ p < 15 ∧ all.testBit p = true ∧ m.testBit p = false ∧ ∀ q, q < p → all.testBit q = true → m.testBit q = true := by
  rcases first_of (P := fun j => all.testBit j && !m.testBit j) 15 with h | ⟨i, h1, h2, h3⟩
  · exfalso
    apply hne
    rw [← left_zero ha hm hsub]
    unfold left
    have : ∀ n, n ≤ 15 → cntF (fun j => all.testBit j && !m.testBit j) n = 0 := by
      intro n
      induction n with
      | zero => intro _; rfl
      | succ n ih => intro hn; rw [cntF, ih (by omega), h n (by omega)]; rfl
    exact this 15 (Nat.le_refl _)
  · simp only [Bool.and_eq_true, Bool.not_eq_true'] at h2
    have h4 : ∀ q, q < i → all.testBit q = true → m.testBit q = true := by
      intro q hq ha'
      have := h3 q hq
      rw [ha'] at this
      simpa using this
    refine ⟨i, lowP_spec all m 15 0 i (by omega) (by omega) h2.1 h2.2 (fun q _ hq hc => ?_), h1, h2.1, h2.2, h4⟩
    rw [h4 q hq hc.1] at hc; cases hc.2
/-- what is known on the way -/
structure Lead (xs : List Blk) (all : Nat) (now : List Int) (m : Nat) : Prop where
  alt : all < 32768
  mlt : m < 32768
  sub : ∀ j, m.testBit j = true → all.testBit j = true
  ris : risesI now xs.length
  fst : ∀ j, j < now.length → ∀ q : Nat, (q : Int) ≤ (blkAt xs now j).1 → all.testBit q = true → m.testBit q = true
theorem first_mono {v : Int} {xs : List Blk} (ha : areB v xs) {i j : Nat} (hj : j < xs.length) (hij : i ≤ j) : (nth xs i).1 ≤ (nth xs j).1 := by
  by_cases e : i = j
  · subst e; exact Int.le_refl _
  · have := are_bef ha j hj i (by omega)
    unfold befB at this
    simp only [decide_eq_true_eq] at this
    omega
theorem lead_fit {v : Int} {xs : List Blk} (hv : v ≤ 15) (ha : areB v xs) {all m : Nat} {now : List Int} (hL : Lead xs all now m) (hne : m ≠ all) {i : Nat} (hi : i < xs.length)
    (hp : hasB (nth xs i) (lowP all m 15 0 : Nat) = true) (hd : (maskB (nth xs i) &&& m == 0) = true) (hin : inA all (nth xs i) = true) : fromI now ≤ i ∧ Lead xs all (now ++ [(i : Int)]) (m ||| maskB (nth xs i)) ∧ (nth xs i).1 = (lowP all m 15 0 : Nat) := by
  have hg := good_mono (ha i hi).1 hv
  have hb := good_bd hg
  obtain ⟨p, hpe, hp15, hpa, hpm, hpq⟩ := low_is hL.alt hL.mlt hL.sub hne
  rw [hpe] at hp ⊢
  obtain ⟨B, hB⟩ := Int.eq_ofNat_of_zero_le hb.1
  have hB1 : hasB (nth xs i) B = true := has_iff.2 (.inl hB)
  have hBall := (inA_iff hg).1 hin B hB1
  have hBm := (dj_iff hg).1 hd B hB1
  have hpB : (B : Int) ≤ p := by rw [← hB]; rcases has_iff.1 hp with e | e | e <;> omega
  have hfst : B = p := by
    rcases Nat.lt_or_ge B p with hlt | hge
    · rw [hpq B hlt hBall] at hBm; cases hBm
    · omega
  have hfrom : fromI now ≤ i := by
    unfold fromI
    split
    · omega
    · rename_i hn
      have hlast := (hL.ris (now.length - 1) (by omega)).1
      rcases Nat.lt_or_ge i ((nthI now (now.length - 1)).toNat + 1) with hlt | hge
      · exfalso
        have hm := first_mono ha (i := i) (j := (nthI now (now.length - 1)).toNat) (by omega) (by omega)
        have hf := hL.fst (now.length - 1) (by omega) p (by unfold blkAt; omega) hpa
        rw [hf] at hpm; cases hpm
      · exact hge
  refine ⟨hfrom, ⟨hL.alt, ?_, fun j hj => ?_, rises_snoc hL.ris hi hfrom, fun j hj q hq ha' => ?_⟩, by omega⟩
  · have hml := maskB_lt hg
    have : m ||| maskB (nth xs i) < 2 ^ 15 := Nat.or_lt_two_pow (by simpa using hL.mlt) (by simpa using hml)
    simpa using this
  · rw [Nat.testBit_or, Bool.or_eq_true, maskB_bit hg] at hj
    rcases hj with h | h
    · exact hL.sub j h
    · exact (inA_iff hg).1 hin j h
  · rw [Nat.testBit_or, Bool.or_eq_true, maskB_bit hg]
    rw [List.length_append, List.length_singleton] at hj
    by_cases e : j = now.length
    · subst e
      rw [blkAt_last] at hq
      by_cases eq : q = p
      · subst eq; exact .inr hp
      · exact .inl (hpq q (by omega) ha')
    · rw [blkAt_app (by omega)] at hq
      exact .inl (hL.fst j (by omega) q hq ha')
theorem cntF_mono' {f g : Nat → Bool} (n : Nat) (h : ∀ j, j < n → f j = true → g j = true) : cntF f n ≤ cntF g n := by
  induction n with
  | zero => simp [cntF]
  | succ n ih =>
    have h1 := ih (fun j hj => h j (by omega)); have h2 := h n (by omega)
    rw [cntF, cntF]
    cases hf : f n <;> cases hg : g n <;> simp_all <;> omega
theorem cntA_dead {v : Int} {xs : List Blk} (hv : v ≤ 15) (ha : areB v xs) {all : Nat} (p : Nat) (hp : all.testBit p = true) (hp15 : p < 15) : ∀ d m a, m.testBit p = false → 3 * d = left all m → (∀ j, a ≤ j → j < xs.length → hasB (nth xs j) p = false) → cntA xs all d m a = 0 := by
  intro d
  induction d with
  | zero =>
    intro m a hm hd _
    exfalso
    have h1 := cntF_mono' (f := fun j => decide (j = p)) (g := fun j => all.testBit j && !m.testBit j) 15 (fun j _ h => by simp only [decide_eq_true_eq] at h; subst h; rw [hp, hm]; rfl)
    rw [cntF_eq p 15 hp15] at h1
    unfold left at hd
    omega
  | succ d ih =>
    intro m a hm hd hno
    rw [cntA]
    have key : ∀ n, n ≤ xs.length → loopS (fun i => cntA xs all d (m ||| maskB (nth xs i)) (i + 1)) (fun i => (maskB (nth xs i) &&& m == 0) && inA all (nth xs i)) a n = 0 := by
      intro n
      induction n with
      | zero => intro _; rfl
      | succ n ihn =>
        intro hn
        rw [loopS, ihn (by omega)]
        split
        · rename_i hc
          obtain ⟨h1, h2⟩ := hc
          simp only [Bool.and_eq_true] at h2
          have hg := good_mono (ha n (by omega)).1 hv
          rw [ih _ _ ?_ ?_ (fun j hj => hno j (by omega))]
          · rw [Nat.testBit_or, hm, maskB_bit hg, hno n h1 (by omega)]; rfl
          · have := left_step hg h2.1 h2.2; omega
        · rfl
    exact key xs.length (Nat.le_refl _)

theorem loopS_zero {f : Nat → Nat} {p : Nat → Bool} {a : Nat} : ∀ n, (∀ i, a ≤ i → i < n → p i = true → f i = 0) → loopS f p a n = 0 := by
  intro n
  induction n with
  | zero => intro _; rfl
  | succ n ih =>
    intro h
    rw [loopS, ih (fun i h1 h2 => h i h1 (by omega))]
    split
    · rename_i hc; rw [h n hc.1 (by omega) hc.2]
    · rfl
theorem loop_count {f : Nat → List (List Int)} {g : Nat → Nat} {p q : Nat → Bool} {a n : Nat} (h : ∀ i, i < n → (p i = true → a ≤ i ∧ q i = true ∧ (f i).length = g i) ∧ (a ≤ i → q i = true → p i = false → g i = 0)) : ∀ m, m ≤ n → (loopL f p 0 m).length = loopS g q a m := by
  intro m
  induction m with
  | zero => intro _; rfl
  | succ m ih =>
    intro hm
    rw [loopL, loopS, List.length_append, ih (by omega)]
    obtain ⟨h1, h2⟩ := h m (by omega)
    cases hp : p m
    · rw [if_neg (by simp)]
      by_cases hc : a ≤ m ∧ q m = true
      · rw [if_pos hc, h2 hc.1 hc.2 hp]; rfl
      · rw [if_neg hc]; rfl
    · obtain ⟨k1, k2, k3⟩ := h1 hp
      rw [if_pos ⟨Nat.zero_le _, rfl⟩, if_pos ⟨k1, k2⟩, k3]
theorem cls_len {v : Int} {xs : List Blk} (hv : v ≤ 15) (ha : areB v xs) {all : Nat} : ∀ d now m, Lead xs all now m → 3 * d = left all m → (clsL xs all d now m).length = cntA xs all d m (fromI now) := by
  intro d
  induction d with
  | zero =>
    intro now m hL hd
    have := (left_zero hL.alt hL.mlt hL.sub).1 (by omega)
    rw [clsL, if_pos this]; rfl
  | succ d ih =>
    intro now m hL hd
    have hne : m ≠ all := fun e => by have := (left_zero hL.alt hL.mlt hL.sub).2 e; omega
    rw [clsL, if_neg hne, cntA]
    refine loop_count (n := xs.length) (fun i hi => ⟨fun hp => ?_, fun h1 h2 h3 => ?_⟩) xs.length (Nat.le_refl _)
    · simp only [Bool.and_eq_true] at hp
      obtain ⟨⟨p1, p2⟩, p3⟩ := hp
      obtain ⟨k1, k2, k3⟩ := lead_fit hv ha hL hne hi p1 p2 p3
      have hg := good_mono (ha i hi).1 hv
      have hls := left_step hg p2 p3
      exact ⟨k1, by rw [p2, p3]; rfl, by rw [ih _ _ k2 (by omega), fromI_snoc]⟩
    · simp only [Bool.and_eq_true] at h2
      rw [h2.1, h2.2] at h3
      simp only [Bool.and_true] at h3
      obtain ⟨p, hpe, hp15, hpa, hpm, hpq⟩ := low_is hL.alt hL.mlt hL.sub hne
      rw [hpe] at h3
      have hg := good_mono (ha i hi).1 hv
      have hb := good_bd hg
      have hls := left_step hg h2.1 h2.2
      obtain ⟨B, hB⟩ := Int.eq_ofNat_of_zero_le hb.1
      have hB1 : hasB (nth xs i) B = true := has_iff.2 (.inl hB)
      have hBall := (inA_iff hg).1 h2.2 B hB1
      have hBm := (dj_iff hg).1 h2.1 B hB1
      have hBp : p < B := by
        rcases Nat.lt_trichotomy B p with h | h | h
        · rw [hpq B h hBall] at hBm; cases hBm
        · rw [h, h3] at hB1; cases hB1
        · exact h
      refine cntA_dead hv ha p hpa hp15 d _ _ ?_ (by omega) (fun j hj hjl => ?_)
      · rw [Nat.testBit_or, hpm, maskB_bit hg, h3]; rfl
      · have hm := first_mono ha (i := i) hjl (by omega)
        have hgj := good_bd (ha j hjl).1
        rw [← Bool.not_eq_true, has_iff]
        omega
theorem cls_none {v : Int} {xs : List Blk} (hv : v ≤ 15) (ha : areB v xs) {all : Nat} : ∀ d now m, Lead xs all now m → left all m % 3 ≠ 0 → clsL xs all d now m = [] := by
  intro d
  induction d with
  | zero =>
    intro now m hL hd
    have hne : m ≠ all := fun e => by have := (left_zero hL.alt hL.mlt hL.sub).2 e; omega
    rw [clsL, if_neg hne]
  | succ d ih =>
    intro now m hL hd
    have hne : m ≠ all := fun e => by have := (left_zero hL.alt hL.mlt hL.sub).2 e; omega
    rw [clsL, if_neg hne, loopL_empty]
    intro i _ hi hp
    simp only [Bool.and_eq_true] at hp
    obtain ⟨⟨p1, p2⟩, p3⟩ := hp
    obtain ⟨k1, k2, k3⟩ := lead_fit hv ha hL hne hi p1 p2 p3
    have hls := left_step (good_mono (ha i hi).1 hv) p2 p3
    exact ih _ _ k2 (by omega)
/-- all points -/
def allM (n : Nat) : Nat := 2 ^ n - 1
theorem allM_bit (n j : Nat) : (allM n).testBit j = decide (j < n) := by unfold allM; exact Nat.testBit_two_pow_sub_one n j
theorem allM_lt {n : Nat} (h : n ≤ 15) : allM n < 32768 := by
  have : 2 ^ n ≤ 2 ^ 15 := Nat.pow_le_pow_right (by omega) h
  have e : 2 ^ 15 = 32768 := by decide
  unfold allM; omega
theorem cntA_all {n : Nat} {xs : List Blk} (ha : areB n xs) (hn : n ≤ 15) : ∀ d m a, cntA xs (allM n) d m a = cntS xs d m a := by
  intro d
  induction d with
  | zero => intro m a; rfl
  | succ d ih =>
    intro m a
    rw [cntA, cntS]
    have key : ∀ k, k ≤ xs.length → loopS (fun i => cntA xs (allM n) d (m ||| maskB (nth xs i)) (i + 1)) (fun i => (maskB (nth xs i) &&& m == 0) && inA (allM n) (nth xs i)) a k = loopS (fun i => cntS xs d (m ||| maskB (nth xs i)) (i + 1)) (fun i => maskB (nth xs i) &&& m == 0) a k := by
      intro k
      induction k with
      | zero => intro _; rfl
      | succ k ihk =>
        intro hk
        have hg := ha k (by omega)
        have hin : inA (allM n) (nth xs k) = true := (inA_iff (good_mono hg.1 (by omega))).2 fun j hj => by
          rw [allM_bit]
          have := good_bd hg.1
          have := has_iff.1 hj
          simp only [decide_eq_true_eq]; omega
        rw [loopS, loopS, ihk (by omega), ih, hin, Bool.and_true]
    exact key xs.length (Nat.le_refl _)
theorem left_all {n : Nat} (hn : n ≤ 15) : left (allM n) 0 = n := by
  unfold left
  rw [cntF_congr (g := fun j => decide (j < n)) 15 (fun j _ => by rw [allM_bit]; simp)]
  have : ∀ k, cntF (fun j => decide (j < n)) k = min n k := by
    intro k
    induction k with
    | zero => simp [cntF]
    | succ k ih => rw [cntF, ih]; by_cases h : k < n <;> simp [h] <;> omega
  rw [this]; omega
/-- all points but one -/
def butM (n q : Nat) : Nat := allM n - 2 ^ q
theorem butM_small : ∀ n, n < 16 → ∀ q, q < n → ∀ j, j < 16 → (butM n q).testBit j = (decide (j < n) && decide (j ≠ q)) := by decide +kernel
theorem butM_lt {n q : Nat} (hn : n ≤ 15) : butM n q < 32768 := by have h := allM_lt hn; unfold butM; exact Nat.lt_of_le_of_lt (Nat.sub_le _ _) h
theorem butM_bit {n q : Nat} (hn : n ≤ 15) (hq : q < n) (j : Nat) : (butM n q).testBit j = (decide (j < n) && decide (j ≠ q)) := by
  by_cases hj : j < 16
  · exact butM_small n (by omega) q hq j hj
  · have h1 := butM_lt (q := q) hn
    rw [Nat.testBit_lt_two_pow (Nat.lt_of_lt_of_le h1 (by have : 2 ^ 15 ≤ 2 ^ j := Nat.pow_le_pow_right (by omega) (by omega); simpa using this))]
    have : ¬ j < n := by omega
    simp [this]
theorem cntF_cut (f : Nat → Bool) (n : Nat) : ∀ k, cntF (fun j => decide (j < n) && f j) (n + k) = cntF f n := by
  intro k
  induction k with
  | zero => exact cntF_congr n fun j hj => by simp [hj]
  | succ k ih =>
    rw [← Nat.add_assoc, cntF, ih]
    have : ¬ n + k < n := by omega
    simp [this]
theorem left_allM {n : Nat} (hn : n ≤ 15) (m : Nat) : left (allM n) m = cntF (fun j => !m.testBit j) n := by
  unfold left
  rw [cntF_congr (g := fun j => decide (j < n) && !m.testBit j) 15 (fun j _ => by rw [allM_bit])]
  have := cntF_cut (fun j => !m.testBit j) n (15 - n)
  have e : n + (15 - n) = 15 := by omega
  rwa [e] at this
theorem left_but {n q : Nat} (hn : n ≤ 15) (hq : q < n) : left (butM n q) 0 = n - 1 := by
  have h1 := left_all hn
  have h2 := cntF_or (f := fun j => (butM n q).testBit j && !(0 : Nat).testBit j) (g := fun j => decide (j = q)) (h := fun j => (allM n).testBit j && !(0 : Nat).testBit j) 15 (fun j _ => by
    rw [butM_bit hn hq, allM_bit]
    by_cases e : j = q
    · subst e; simp [hq]
    · simp [e])
  rw [cntF_eq q 15 (by omega)] at h2
  unfold left at *
  omega
theorem loopS_sum (f : Nat → Nat) (p : Nat → Bool) (a : Nat) : ∀ n, loopS f p a n = sumN (fun i => if a ≤ i ∧ p i = true then f i else 0) n := by
  intro n
  induction n with
  | zero => rfl
  | succ n ih => rw [loopS, sumN, ih]
theorem sumN_swap' (f : Nat → Nat → Nat) (n : Nat) : ∀ m, sumN (fun i => sumN (f i) n) m = sumN (fun j => sumN (fun i => f i j) m) n := by
  intro m
  induction m with
  | zero =>
    have : sumN (fun j => sumN (fun i => f i j) 0) n = sumN (fun _ => 0) n := sumN_congr n fun j _ => rfl
    rw [this, sumN_const]; simp [sumN]
  | succ m ih =>
    rw [sumN, ih, ← sumN_add]
    exact sumN_congr n fun j _ => rfl
theorem near_sum {n : Nat} {xs : List Blk} (ha : areB n xs) (hn : n ≤ 15) : ∀ d m a, left (allM n) m = 3 * d + 1 → sumN (fun q => if m.testBit q = true then 0 else cntA xs (butM n q) d m a) n = cntS xs d m a := by
  intro d
  induction d with
  | zero =>
    intro m a h
    rw [left_allM hn, ← sumN_cnt] at h
    have e : sumN (fun q => if m.testBit q = true then 0 else cntA xs (butM n q) 0 m a) n = sumN (fun i => if (!m.testBit i) = true then 1 else 0) n := sumN_congr n fun q _ => by cases m.testBit q <;> simp [cntA]
    rw [cntS, e, h]
  | succ d ih =>
    intro m a h
    rw [cntS, loopS_sum]
    have e1 : ∀ q, q < n → (if m.testBit q = true then 0 else cntA xs (butM n q) (d + 1) m a) = sumN (fun i => if m.testBit q = true then 0 else if a ≤ i ∧ ((maskB (nth xs i) &&& m == 0) && inA (butM n q) (nth xs i)) = true then cntA xs (butM n q) d (m ||| maskB (nth xs i)) (i + 1) else 0) xs.length := by
      intro q hq
      rw [cntA, loopS_sum]
      cases hm : m.testBit q
      · exact sumN_congr _ fun i _ => by simp
      · rw [if_pos rfl, sumN_congr (g := fun _ => 0) _ (fun i _ => by simp), sumN_const]; simp
    rw [sumN_congr n e1, sumN_swap']
    refine sumN_congr _ fun i hi => ?_
    have hg := good_mono (ha i hi).1 (by omega : (n : Int) ≤ 15)
    by_cases hc : a ≤ i ∧ (maskB (nth xs i) &&& m == 0) = true
    · rw [if_pos hc]
      have hin : inA (allM n) (nth xs i) = true := (inA_iff hg).2 fun j hj => by
        rw [allM_bit]
        have := good_bd (ha i hi).1
        have := has_iff.1 hj
        simp only [decide_eq_true_eq]; omega
      rw [← ih (m ||| maskB (nth xs i)) (i + 1) (by have := left_step hg hc.2 hin; omega)]
      refine sumN_congr n fun q hq => ?_
      rw [Nat.testBit_or, maskB_bit hg, hc.2]
      cases hm : m.testBit q
      · cases hb : hasB (nth xs i) q
        · have : inA (butM n q) (nth xs i) = true := (inA_iff hg).2 fun j hj => by
            rw [butM_bit hn hq]
            have h1 := (inA_iff hg).1 hin j hj
            rw [allM_bit] at h1
            have : j ≠ q := fun e => by rw [e, hb] at hj; cases hj
            rw [h1]; simp [this]
          simp [this, hc.1]
        · have : inA (butM n q) (nth xs i) = false := by
            rw [← Bool.not_eq_true]
            intro h2
            have := (inA_iff hg).1 h2 q hb
            rw [butM_bit hn hq] at this
            simp at this
          simp [this]
      · simp
    · rw [if_neg hc]
      have : ∀ q, q < n → (if m.testBit q = true then 0 else if a ≤ i ∧ ((maskB (nth xs i) &&& m == 0) && inA (butM n q) (nth xs i)) = true then cntA xs (butM n q) d (m ||| maskB (nth xs i)) (i + 1) else 0) = (fun _ => 0) q := by
        intro q _
        have : ¬ (a ≤ i ∧ ((maskB (nth xs i) &&& m == 0) && inA (butM n q) (nth xs i)) = true) := fun h2 => hc ⟨h2.1, by have := h2.2; simp only [Bool.and_eq_true] at this; exact this.1⟩
        rw [if_neg this]; simp
      rw [sumN_congr n this, sumN_const]; simp
theorem lead_nil (xs : List Blk) {all : Nat} (h : all < 32768) : Lead xs all [] 0 := ⟨h, by omega, fun j hj => by simp at hj, fun k hk => by simp at hk, fun j hj => by simp at hj⟩
theorem full_count {n : Nat} {xs : List Blk} (ha : areB n xs) (hn : n ≤ 15) : (clsL xs (allM n) (n / 3) [] 0).length = if n % 3 = 0 then cntS xs (n / 3) 0 0 else 0 := by
  have hl := left_all hn
  split
  · rename_i h
    rw [cls_len (v := n) (by omega) ha _ _ _ (lead_nil xs (allM_lt hn)) (by omega), cntA_all ha hn]; rfl
  · rename_i h
    rw [cls_none (v := n) (by omega) ha _ _ _ (lead_nil xs (allM_lt hn)) (by omega)]; rfl
theorem near_count {n : Nat} {xs : List Blk} (ha : areB n xs) (hn : n ≤ 15) (hn3 : 3 ≤ n) : sumN (fun q => (clsL xs (butM n q) (n / 3) [] 0).length) n = if n % 3 = 1 then cntS xs (n / 3) 0 0 else 0 := by
  split
  · rename_i h
    rw [← near_sum ha hn (n / 3) 0 0 (by rw [left_all hn]; omega)]
    refine sumN_congr n fun q hq => ?_
    rw [cls_len (v := n) (by omega) ha _ _ _ (lead_nil xs (butM_lt hn)) (by rw [left_but hn hq]; omega)]
    simp [fromI]
  · rename_i h
    have : ∀ q, q < n → (clsL xs (butM n q) (n / 3) [] 0).length = (fun _ => 0) q := by
      intro q hq
      rw [cls_none (v := n) (by omega) ha _ _ _ (lead_nil xs (butM_lt hn)) (by rw [left_but hn hq]; omega)]; rfl
    rw [sumN_congr n this, sumN_const]; simp

end Go.Proofs.Ytabgmjakkgalgaa

/- Contracts of the number of digits and of the greatest sets of disjoint blocks; conditions: stated in each. -/
namespace Go.Proofs.Ytabgmjakkgalgaa
open Go.RowKit
set_option maxHeartbeats 1000000
set_option maxRecDepth 100000
set_option linter.unusedSimpArgs false
set_option linter.unusedVariables false

/-- the digits 1 of a number, the first f of them looked at -/
def onesF : Nat → Nat → Nat
  | 0, _ => 0
  | f + 1, n => onesF f (n / 2) + n % 2
theorem onesF_zero : ∀ f, onesF f 0 = 0 := by
  intro f; induction f with
  | zero => rfl
  | succ f ih => simp [onesF, ih]
theorem ones_cnt : ∀ f n, onesF f n = cntF (fun j => n.testBit j) f := by
  intro f
  induction f with
  | zero => intro n; rfl
  | succ f ih =>
    intro n
    rw [onesF, ih]
    have key : ∀ g, cntF (fun j => n.testBit j) (g + 1) = cntF (fun j => (n / 2).testBit j) g + n % 2 := by
      intro g
      induction g with
      | zero => simp [cntF, Nat.testBit_zero]; rcases Nat.mod_two_eq_zero_or_one n with h | h <;> simp [h]
      | succ g ihg =>
        rw [cntF, ihg, cntF, Nat.testBit_div_two]; omega
    rw [key f]

theorem mostF_le {B : Nat} : ∀ {L : List (List Int)} {b : List Int}, b.length ≤ B → (∀ l ∈ L, l.length ≤ B) → (mostF b L).length ≤ B := by
  intro L
  induction L with
  | nil => intro b hb _; exact hb
  | cons l L ih =>
    intro b hb h
    rw [mostF_cons]
    refine ih ?_ (fun l' hl' => h l' (by simp [hl']))
    unfold betterL; split
    · exact h l (by simp)
    · exact hb
/-- what is known of a set of disjoint blocks on the way -/
def Way (v : Int) (xs : List Blk) (now : List Int) (m a : Nat) : Prop := risesI now xs.length ∧ apart xs now now.length ∧ m = uni xs now now.length ∧ a = fromI now
theorem Way.step {v : Int} {xs : List Blk} {now : List Int} {m a i : Nat} (ha : areB v xs) (h : Way v xs now m a) (hi : i < xs.length) (hai : a ≤ i) (ok : okI xs now i = true) : Way v xs (now ++ [(i : Int)]) (m ||| maskB (nth xs i)) (i + 1) := by
  obtain ⟨h1, h2, h3, h4⟩ := h
  exact ⟨rises_snoc h1 hi (h4 ▸ hai), apart_snoc ha h1 h2 hi ok, by rw [h3, uni_snoc], (fromI_snoc _ _).symm⟩
theorem Way.ok {v : Int} {xs : List Blk} {now : List Int} {m a i : Nat} (ha : areB v xs) (h : Way v xs now m a) (hi : i < xs.length) (hai : a ≤ i) : okI xs now i = (maskB (nth xs i) &&& m == 0) := by
  obtain ⟨h1, h2, h3, h4⟩ := h
  rw [h3]; exact ok_iff ha h1 hi (h4 ▸ hai)
theorem Way.ones {v : Int} {xs : List Blk} {now : List Int} {m a : Nat} (ha : areB v xs) (hv : v ≤ 15) (h : Way v xs now m a) : onesF 15 m = 3 * now.length ∧ m < 32768 := by
  obtain ⟨h1, h2, h3, h4⟩ := h
  have hlt := uni_lt ha h1 now.length (Nat.le_refl _)
  have hp := pow15 hv
  refine ⟨?_, by rw [h3]; omega⟩
  rw [ones_cnt, h3, ← uni_cnt ha h1 h2 now.length (Nat.le_refl _)]
  have key : ∀ k, v.toNat + k ≤ 15 → cntF (fun j => (uni xs now now.length).testBit j) (v.toNat + k) = cntF (fun j => (uni xs now now.length).testBit j) v.toNat := by
    intro k
    induction k with
    | zero => intro _; rfl
    | succ k ih =>
      intro hk
      have : (uni xs now now.length).testBit (v.toNat + k) = false := Nat.testBit_lt_two_pow (Nat.lt_of_lt_of_le hlt (Nat.pow_le_pow_right (by omega) (by omega)))
      rw [← Nat.add_assoc, cntF, ih (by omega), this]; rfl
  have := key (15 - v.toNat) (by omega)
  have e : v.toNat + (15 - v.toNat) = 15 := by omega
  rwa [e] at this

end Go.Proofs.Ytabgmjakkgalgaa

/- Plain laws of the greatest independent sets. Conditions: stated in each. -/
namespace Go.Proofs.Ytabgmjakkgalgaa

noncomputable def indB (xs : List Blk) (s : Nat) : Bool := open Classical in decide (∀ i, i < xs.length → maskB (nth xs i) &&& s ≠ maskB (nth xs i))
theorem indB_iff {xs : List Blk} {s : Nat} : indB xs s = true ↔ ∀ i, i < xs.length → maskB (nth xs i) &&& s ≠ maskB (nth xs i) := by unfold indB; simp
theorem and_sub {m s : Nat} : m &&& s = m ↔ ∀ j, m.testBit j = true → s.testBit j = true := by
  constructor
  · intro h j hj
    have : (m &&& s).testBit j = m.testBit j := by rw [h]
    rw [Nat.testBit_and, hj] at this
    simpa using this
  · intro h
    apply Nat.eq_of_testBit_eq
    intro j
    rw [Nat.testBit_and]
    cases hj : m.testBit j
    · rfl
    · rw [h j hj]; rfl
theorem ind_sub {xs : List Blk} {s t : Nat} (h : indB xs s = true) (hs : ∀ j, t.testBit j = true → s.testBit j = true) : indB xs t = true := by
  rw [indB_iff] at h ⊢
  intro i hi e
  exact h i hi (and_sub.2 fun j hj => hs j (and_sub.1 e j hj))
theorem ind_zero {xs : List Blk} (hg : ∀ i, i < xs.length → goodB 15 (nth xs i) = true) : indB xs 0 = true := by
  rw [indB_iff]
  intro i hi e
  rw [Nat.and_zero] at e
  have h := maskB_bit (hg i hi) ((nth xs i).1.toNat)
  have hb := good_bd (hg i hi)
  rw [← e, Nat.zero_testBit, Int.toNat_of_nonneg hb.1] at h
  simp [hasB] at h
def loopG {α : Type} (f : Nat → List α) (p : Nat → Bool) (a : Nat) : Nat → List α
  | 0 => []
  | m + 1 => loopG f p a m ++ (if a ≤ m ∧ p m = true then f m else [])
theorem loopG_mem {α : Type} {f : Nat → List α} {p : Nat → Bool} {a : Nat} {l : α} : ∀ {m : Nat}, l ∈ loopG f p a m ↔ ∃ i, a ≤ i ∧ i < m ∧ p i = true ∧ l ∈ f i := by
  intro m
  induction m with
  | zero => simp [loopG]
  | succ m ih =>
    rw [loopG, List.mem_append, ih]
    constructor
    · rintro (⟨i, h1, h2, h3, h4⟩ | h)
      · exact ⟨i, h1, by omega, h3, h4⟩
      · by_cases e : a ≤ m ∧ p m = true
        · rw [if_pos e] at h; exact ⟨m, e.1, by omega, e.2, h⟩
        · rw [if_neg e] at h; simp at h
    · rintro ⟨i, h1, h2, h3, h4⟩
      by_cases e : i = m
      · subst e; right; rw [if_pos ⟨h1, h3⟩]; exact h4
      · exact .inl ⟨i, h1, by omega, h3, h4⟩
theorem loopG_nil {α : Type} (f : Nat → List α) (p : Nat → Bool) (a : Nat) : ∀ m, m ≤ a → loopG f p a m = [] := by
  intro m
  induction m with
  | zero => intro _; rfl
  | succ m ih => intro h; rw [loopG, ih (by omega), if_neg (by omega)]; rfl
theorem loopG_pair {α : Type} {f : Nat → List α} {p : Nat → Bool} {a : Nat} {R : α → α → Prop} : ∀ m, (∀ i, a ≤ i → i < m → p i = true → (f i).Pairwise R) → (∀ i j, a ≤ i → i < j → j < m → p i = true → p j = true → ∀ x, x ∈ f i → ∀ y, y ∈ f j → R x y) → (loopG f p a m).Pairwise R := by
  intro m
  induction m with
  | zero => intro _ _; exact List.Pairwise.nil
  | succ m ih =>
    intro h1 h2
    rw [loopG, List.pairwise_append]
    refine ⟨ih (fun i a1 a2 a3 => h1 i a1 (by omega) a3) (fun i j a1 a2 a3 => h2 i j a1 a2 (by omega)), ?_, ?_⟩
    · by_cases e : a ≤ m ∧ p m = true
      · rw [if_pos e]; exact h1 m e.1 (by omega) e.2
      · rw [if_neg e]; exact List.Pairwise.nil
    · intro x hx y hy
      by_cases e : a ≤ m ∧ p m = true
      · rw [if_pos e] at hy
        obtain ⟨i, b1, b2, b3, b4⟩ := loopG_mem.1 hx
        exact h2 i m b1 b2 (by omega) b3 e.2 x b4 y hy
      · rw [if_neg e] at hy; simp at hy
/-- the independent sets that go on from one, a set ahead of those that go on from it -/
noncomputable def preM (xs : List Blk) (v : Nat) : Nat → Nat → Nat → List Nat
  | 0, m, _ => [m]
  | d + 1, m, p => m :: loopG (fun q => preM xs v d (m ||| 2 ^ q) (q + 1)) (fun q => indB xs (m ||| 2 ^ q)) p v
def bstM (b m : Nat) : Nat := if onesF 15 b < onesF 15 m then m else b
def mosM (b : Nat) (L : List Nat) : Nat := L.foldl bstM b
theorem mosM_app (b : Nat) (L M : List Nat) : mosM b (L ++ M) = mosM (mosM b L) M := by simp [mosM]
theorem mosM_cons (b l : Nat) (M : List Nat) : mosM b (l :: M) = mosM (bstM b l) M := rfl
theorem mosM_nil (b : Nat) : mosM b [] = b := rfl
theorem mosM_stay {b : Nat} : ∀ {L : List Nat}, (∀ l ∈ L, onesF 15 l ≤ onesF 15 b) → mosM b L = b := by
  intro L
  induction L with
  | nil => intro _; rfl
  | cons l L ih =>
    intro h
    have h1 := h l (by simp)
    have : bstM b l = b := by unfold bstM; rw [if_neg (by omega)]
    rw [mosM_cons, this, ih (fun l hl => h l (by simp [hl]))]
theorem mosM_mem : ∀ (L : List Nat) (b : Nat), mosM b L = b ∨ mosM b L ∈ L := by
  intro L
  induction L with
  | nil => intro b; exact .inl rfl
  | cons l L ih =>
    intro b
    rw [mosM_cons]
    rcases ih (bstM b l) with h | h
    · rw [h]; unfold bstM; split
      · right; simp
      · left; rfl
    · right; simp [h]
theorem mosM_up : ∀ (L : List Nat) (b : Nat), mosM b L = b ∨ onesF 15 b < onesF 15 (mosM b L) := by
  intro L
  induction L with
  | nil => intro b; exact .inl rfl
  | cons l L ih =>
    intro b
    rw [mosM_cons]
    by_cases h : onesF 15 b < onesF 15 l
    · have e : bstM b l = l := by unfold bstM; rw [if_pos h]
      rw [e]
      rcases ih l with h2 | h2
      · rw [h2]; exact .inr h
      · exact .inr (by omega)
    · have e : bstM b l = b := by unfold bstM; rw [if_neg h]
      rw [e]; exact ih b
/-- the first one of the greatest ones -/
theorem mosM_spec {R : Nat → Nat → Prop} : ∀ (L : List Nat) (b : Nat), (∀ t ∈ L, R b t) → L.Pairwise R → ∀ t, t = b ∨ t ∈ L → onesF 15 t < onesF 15 (mosM b L) ∨ onesF 15 t = onesF 15 (mosM b L) ∧ (t = mosM b L ∨ R (mosM b L) t) := by
  intro L
  induction L with
  | nil => intro b _ _ t ht; rcases ht with rfl | ht
           · exact .inr ⟨rfl, .inl rfl⟩
           · simp at ht
  | cons l L ih =>
    intro b hb hp t ht
    rw [List.pairwise_cons] at hp
    rw [mosM_cons]
    by_cases hlt : onesF 15 b < onesF 15 l
    · have e : bstM b l = l := by unfold bstM; rw [if_pos hlt]
      rw [e]
      rcases ht with rfl | ht
      · have := ih l hp.1 hp.2 l (.inl rfl)
        omega
      · rw [List.mem_cons] at ht
        exact ih l hp.1 hp.2 t ht
    · have e : bstM b l = b := by unfold bstM; rw [if_neg hlt]
      rw [e]
      have hb' : ∀ t ∈ L, R b t := fun t h => hb t (by simp [h])
      rcases ht with rfl | ht
      · exact ih t hb' hp.2 t (.inl rfl)
      · rw [List.mem_cons] at ht
        rcases ht with rfl | ht
        · rcases mosM_up L b with h3 | h3
          · rw [h3]
            by_cases h4 : onesF 15 t = onesF 15 b
            · exact .inr ⟨h4, .inr (hb t (by simp))⟩
            · exact .inl (by omega)
          · exact .inl (by omega)
        · exact ih b hb' hp.2 t (.inr ht)

theorem ones_or (m q : Nat) : onesF 15 (m ||| 2 ^ q) ≤ onesF 15 m + 1 := by
  rw [ones_cnt, ones_cnt]
  have key : ∀ n, cntF (fun j => (m ||| 2 ^ q).testBit j) n ≤ cntF (fun j => m.testBit j) n + (if q < n then 1 else 0) := by
    intro n
    induction n with
    | zero => simp [cntF]
    | succ n ih =>
      have hb : (m ||| 2 ^ q).testBit n = (m.testBit n || decide (q = n)) := by rw [Nat.testBit_or, Nat.testBit_two_pow]
      rw [cntF, cntF, hb]
      generalize cntF (fun j => (m ||| 2 ^ q).testBit j) n = X at *
      generalize cntF (fun j => m.testBit j) n = Y at *
      generalize m.testBit n = a
      by_cases e : q = n
      · rw [if_neg (by omega : ¬ q < n)] at ih
        rw [if_pos (by omega : q < n + 1)]
        have e2 : decide (q = n) = true := by simpa using e
        rw [e2, Bool.or_true]
        cases a <;> simp <;> omega
      · have e2 : decide (q = n) = false := by simpa using e
        rw [e2, Bool.or_false]
        by_cases h : q < n
        · rw [if_pos h] at ih; rw [if_pos (by omega : q < n + 1)]; cases a <;> simp <;> omega
        · rw [if_neg h] at ih; rw [if_neg (by omega : ¬ q < n + 1)]; cases a <;> simp <;> omega
  have := key 15
  split at this <;> omega
theorem pre_bd {xs : List Blk} {v : Nat} : ∀ d m p l, p ≤ v → l ∈ preM xs v d m p → onesF 15 l ≤ onesF 15 m + (v - p) := by
  intro d
  induction d with
  | zero => intro m p l _ h; rw [preM, List.mem_singleton] at h; subst h; omega
  | succ d ih =>
    intro m p l hp h
    rw [preM, List.mem_cons] at h
    rcases h with rfl | h
    · omega
    · obtain ⟨q, h1, h2, h3, h4⟩ := loopG_mem.1 h
      have h5 := ih _ _ l (by omega) h4
      have h6 := ones_or m q
      omega
/-- the rounds from q on give nothing better -/
theorem pre_stop {f : Nat → List Nat} {p : Nat → Bool} {a i b c : Nat} (e : mosM b (loopG f p a i) = c) : ∀ n, i ≤ n → (∀ j, i ≤ j → j < n → a ≤ j → p j = true → ∀ l ∈ f j, onesF 15 l ≤ onesF 15 c) → mosM b (loopG f p a n) = c := by
  intro n
  induction n with
  | zero => intro hn _; obtain rfl : i = 0 := by omega
            exact e
  | succ n ih =>
    intro hn h
    by_cases hin : i = n + 1
    · subst hin; exact e
    · rw [loopG, mosM_app, ih (by omega) (fun j h1 h2 => h j h1 (by omega))]
      by_cases hc : a ≤ n ∧ p n = true
      · rw [if_pos hc]; exact mosM_stay (h n (by omega) (by omega) hc.1 hc.2)
      · rw [if_neg hc]; rfl
theorem bit_or_pow (m q j : Nat) : (m ||| 2 ^ q).testBit j = (m.testBit j || decide (q = j)) := by rw [Nat.testBit_or, Nat.testBit_two_pow]
theorem high_bit {m p j : Nat} (h : m < 2 ^ p) (hj : p ≤ j) : m.testBit j = false := Nat.testBit_lt_two_pow (Nat.lt_of_lt_of_le h (Nat.pow_le_pow_right (by omega) hj))
theorem or_pow_lt {m p q : Nat} (h : m < 2 ^ p) (hq : p ≤ q) : m ||| 2 ^ q < 2 ^ (q + 1) :=
  Nat.or_lt_two_pow (Nat.lt_of_lt_of_le h (Nat.pow_le_pow_right (by omega) (by omega))) (Nat.pow_lt_pow_right (by omega) (by omega))
theorem pts_or {m q : Nat} (h : m < 2 ^ q) (hq : q < 15) : ptsN (m ||| 2 ^ q) 15 = ptsN m 15 ++ [(q : Int)] := by
  have h1 : ∀ k, k ≤ q → ptsN (m ||| 2 ^ q) k = ptsN m k := by
    intro k
    induction k with
    | zero => intro _; rfl
    | succ k ih =>
      intro hk
      have : (m ||| 2 ^ q).testBit k = m.testBit k := by rw [bit_or_pow]; have : ¬ q = k := by omega
                                                         simp [this]
      rw [ptsN, ptsN, ih (by omega), this]
  have h2 : ∀ k, ptsN (m ||| 2 ^ q) (q + 1 + k) = ptsN m (q + 1 + k) ++ [(q : Int)] := by
    intro k
    induction k with
    | zero =>
      have e1 : (m ||| 2 ^ q).testBit q = true := by rw [bit_or_pow]; simp
      have e2 : m.testBit q = false := high_bit h (Nat.le_refl _)
      rw [Nat.add_zero, ptsN, ptsN, h1 q (Nat.le_refl _), e1, e2]; simp
    | succ k ih =>
      have e1 : (m ||| 2 ^ q).testBit (q + 1 + k) = false := by
        rw [bit_or_pow, high_bit h (by omega)]; have : ¬ q = q + 1 + k := by omega
        simp [this]
      have e2 : m.testBit (q + 1 + k) = false := high_bit h (by omega)
      rw [← Nat.add_assoc, ptsN, ptsN, e1, e2, ih]; simp
  have := h2 (15 - (q + 1))
  have e : q + 1 + (15 - (q + 1)) = 15 := by omega
  rwa [e] at this
theorem pre_pts {xs : List Blk} {v : Nat} (hv : v ≤ 15) : ∀ d m p l, m < 2 ^ p → l ∈ preM xs v d m p → ∃ A, ptsN l 15 = ptsN m 15 ++ A := by
  intro d
  induction d with
  | zero => intro m p l _ h; rw [preM, List.mem_singleton] at h; subst h; exact ⟨[], by simp⟩
  | succ d ih =>
    intro m p l hm h
    rw [preM, List.mem_cons] at h
    rcases h with rfl | h
    · exact ⟨[], by simp⟩
    · obtain ⟨q, h1, h2, h3, h4⟩ := loopG_mem.1 h
      obtain ⟨A, hA⟩ := ih _ _ l (or_pow_lt hm h1) h4
      rw [pts_or (Nat.lt_of_lt_of_le hm (Nat.pow_le_pow_right (by omega) h1)) (by omega)] at hA
      exact ⟨_, by rw [hA, List.append_assoc]⟩
theorem cmpL_pre : ∀ L A B, cmpL (L ++ A) (L ++ B) = cmpL A B := by
  intro L
  induction L with
  | nil => intro A B; rfl
  | cons x L ih => intro A B; rw [List.cons_append, List.cons_append, cmpL, if_neg (by omega), if_neg (by omega), ih]
theorem cmpL_self (L : List Int) : cmpL L L = 0 := by
  induction L with
  | nil => rfl
  | cons x L ih => rw [cmpL, if_neg (by omega), if_neg (by omega), ih]
theorem cmpL_trans : ∀ {A B C : List Int}, cmpL A B < 0 → cmpL B C < 0 → cmpL A C < 0 := by
  intro A
  induction A with
  | nil =>
    intro B C h1 h2
    cases C with
    | nil => cases B <;> simp [cmpL] at h1 h2
    | cons z C => simp [cmpL]
  | cons x A ih =>
    intro B C h1 h2
    cases B with
    | nil => simp [cmpL] at h1
    | cons y B =>
      cases C with
      | nil => simp [cmpL] at h2
      | cons z C =>
        rw [cmpL] at h1 h2 ⊢
        by_cases e1 : x < y
        · by_cases e2 : y < z
          · rw [if_pos (by omega)]; omega
          · rw [if_neg e2] at h2
            by_cases e3 : z < y
            · rw [if_pos e3] at h2; omega
            · rw [if_pos (by omega)]; omega
        · rw [if_neg e1] at h1
          by_cases e3 : y < x
          · rw [if_pos e3] at h1; omega
          · rw [if_neg e3] at h1
            obtain rfl : x = y := by omega
            by_cases e2 : x < z
            · rw [if_pos e2]; omega
            · rw [if_neg e2] at h2 ⊢
              by_cases e4 : z < x
              · rw [if_pos e4] at h2; omega
              · rw [if_neg e4] at h2 ⊢; exact ih h1 h2
/-- before, by the order of lists -/
def ordM (a b : Nat) : Prop := cmpL (ptsN a 15) (ptsN b 15) < 0
theorem pre_pair {xs : List Blk} {v : Nat} (hv : v ≤ 15) : ∀ d m p, m < 2 ^ p → (preM xs v d m p).Pairwise ordM := by
  intro d
  induction d with
  | zero => intro m p _; rw [preM]; exact List.pairwise_singleton _ _
  | succ d ih =>
    intro m p hm
    have hq : ∀ q, p ≤ q → q < v → ∀ l, l ∈ preM xs v d (m ||| 2 ^ q) (q + 1) → ∃ A, ptsN l 15 = ptsN m 15 ++ ((q : Int) :: A) := by
      intro q h1 h2 l hl
      obtain ⟨A, hA⟩ := pre_pts hv d _ _ l (or_pow_lt hm h1) hl
      rw [pts_or (Nat.lt_of_lt_of_le hm (Nat.pow_le_pow_right (by omega) h1)) (by omega)] at hA
      exact ⟨A, by rw [hA]; simp⟩
    rw [preM, List.pairwise_cons]
    refine ⟨fun l hl => ?_, loopG_pair v (fun i h1 h2 h3 => ih _ _ (or_pow_lt hm h1)) (fun i j h1 h2 h3 h4 h5 x hx y hy => ?_)⟩
    · obtain ⟨q, h1, h2, h3, h4⟩ := loopG_mem.1 hl
      obtain ⟨A, hA⟩ := hq q h1 h2 l h4
      unfold ordM
      rw [hA]
      have := cmpL_pre (ptsN m 15) [] ((q : Int) :: A)
      rw [List.append_nil] at this
      rw [this]; simp [cmpL]
    · obtain ⟨A, hA⟩ := hq i h1 (by omega) x hx
      obtain ⟨B, hB⟩ := hq j (by omega) h3 y hy
      unfold ordM
      rw [hA, hB, cmpL_pre, cmpL, if_pos (by omega)]; omega
theorem pre_in {xs : List Blk} {v : Nat} : ∀ d m p s, v ≤ p + d → m < 2 ^ p → s < 2 ^ v → indB xs s = true → (∀ j, j < p → s.testBit j = m.testBit j) → s ∈ preM xs v d m p := by
  intro d
  induction d with
  | zero =>
    intro m p s hd hm hs hi hb
    rw [preM, List.mem_singleton]
    apply Nat.eq_of_testBit_eq
    intro j
    by_cases hj : j < p
    · exact hb j hj
    · rw [high_bit hs (by omega), high_bit hm (by omega)]
  | succ d ih =>
    intro m p s hd hm hs hi hb
    rw [preM, List.mem_cons]
    by_cases e : s = m
    · exact .inl e
    · right
      rcases first_of (P := fun j => decide (p ≤ j) && s.testBit j) v with h | ⟨q, h1, h2, h3⟩
      · exfalso
        apply e
        apply Nat.eq_of_testBit_eq
        intro j
        by_cases hj : j < p
        · exact hb j hj
        · rw [high_bit hm (by omega)]
          by_cases hjv : j < v
          · have := h j hjv
            have h4 : decide (p ≤ j) = true := by simp; omega
            simp only [h4, Bool.true_and] at this; exact this
          · exact high_bit hs (by omega)
      · simp only [Bool.and_eq_true, decide_eq_true_eq] at h2
        have hbits : ∀ j, j < q + 1 → s.testBit j = (m ||| 2 ^ q).testBit j := by
          intro j hj
          rw [bit_or_pow]
          by_cases e1 : j = q
          · subst e1; rw [h2.2]; simp
          · have : ¬ q = j := fun h => e1 h.symm
            simp only [this, decide_false, Bool.or_false]
            by_cases e2 : j < p
            · exact hb j e2
            · rw [high_bit hm (by omega)]
              have h4 := h3 j (by omega)
              have h5 : decide (p ≤ j) = true := by simp; omega
              simp only [h5, Bool.true_and] at h4; exact h4
        have hlt := or_pow_lt hm h2.1
        refine loopG_mem.2 ⟨q, h2.1, h1, ind_sub hi (fun j hj => ?_), ih _ _ s (by omega) hlt hs hi hbits⟩
        by_cases e1 : j < q + 1
        · rw [hbits j e1]; exact hj
        · rw [high_bit hlt (by omega)] at hj; cases hj
theorem pre_ind {xs : List Blk} {v : Nat} : ∀ d m p l, m < 2 ^ p → m < 2 ^ v → indB xs m = true → l ∈ preM xs v d m p → l < 2 ^ v ∧ indB xs l = true := by
  intro d
  induction d with
  | zero => intro m p l _ h1 h2 h; rw [preM, List.mem_singleton] at h; subst h; exact ⟨h1, h2⟩
  | succ d ih =>
    intro m p l hm h1 h2 h
    rw [preM, List.mem_cons] at h
    rcases h with rfl | h
    · exact ⟨h1, h2⟩
    · obtain ⟨q, a1, a2, a3, a4⟩ := loopG_mem.1 h
      exact ih _ _ l (or_pow_lt hm a1) (Nat.or_lt_two_pow h1 (Nat.pow_lt_pow_right (by omega) a2)) a3 a4
theorem pre_lt {xs : List Blk} {v : Nat} (hv : v ≤ 15) : ∀ d m p l, m < 32768 → l ∈ preM xs v d m p → l < 32768 := by
  intro d
  induction d with
  | zero => intro m p l h1 h; rw [preM, List.mem_singleton] at h; subst h; exact h1
  | succ d ih =>
    intro m p l h1 h
    rw [preM, List.mem_cons] at h
    rcases h with rfl | h
    · exact h1
    · obtain ⟨q, a1, a2, a3, a4⟩ := loopG_mem.1 h
      refine ih _ _ l ?_ a4
      have : m ||| 2 ^ q < 2 ^ 15 := Nat.or_lt_two_pow (by simpa using h1) (Nat.pow_lt_pow_right (by omega) (by omega))
      simpa using this
theorem mos_lt {b : Nat} {L : List Nat} (hb : b < 32768) (h : ∀ l, l ∈ L → l < 32768) : mosM b L < 32768 := by
  rcases mosM_mem L b with e | e
  · rw [e]; exact hb
  · exact h _ e
theorem ones_le (m : Nat) : onesF 15 m ≤ 15 := by rw [ones_cnt]; exact cntF_le _ _
/-- the best one of the sets below k -/
def bestS (xs : List Blk) (k s : Nat) : Prop := s < k ∧ indB xs s = true ∧ ∀ t, t < k → indB xs t = true → onesF 15 t < onesF 15 s ∨ onesF 15 t = onesF 15 s ∧ ¬ cmpL (ptsN t 15) (ptsN s 15) < 0
theorem bestS_zero {xs : List Blk} (h : indB xs 0 = true) : bestS xs 1 0 := ⟨by omega, h, fun t ht _ => by
  obtain rfl : t = 0 := by omega
  exact .inr ⟨rfl, by rw [cmpL_self]; omega⟩⟩
theorem bestS_skip {xs : List Blk} {k s : Nat} (h : bestS xs k s) (hk : indB xs k = true → onesF 15 k < onesF 15 s ∨ onesF 15 k = onesF 15 s ∧ ¬ cmpL (ptsN k 15) (ptsN s 15) < 0) : bestS xs (k + 1) s :=
  ⟨by have := h.1; omega, h.2.1, fun t ht hi => by
    by_cases e : t = k
    · subst e; exact hk hi
    · exact h.2.2 t (by omega) hi⟩
theorem bestS_new {xs : List Blk} {k s : Nat} (h : bestS xs k s) (hi : indB xs k = true) (hk : onesF 15 s < onesF 15 k ∨ onesF 15 k = onesF 15 s ∧ cmpL (ptsN k 15) (ptsN s 15) < 0) : bestS xs (k + 1) k :=
  ⟨by omega, hi, fun t ht hit => by
    by_cases e : t = k
    · subst e; exact .inr ⟨rfl, by rw [cmpL_self]; omega⟩
    · rcases h.2.2 t (by omega) hit with h1 | ⟨h1, h2⟩
      · left; omega
      · rcases hk with h3 | ⟨h3, h4⟩
        · left; omega
        · exact .inr ⟨by omega, fun h5 => h2 (cmpL_trans h5 h4)⟩⟩
theorem best_is_pre {xs : List Blk} {v s : Nat} (hv : v ≤ 15) (h0 : indB xs 0 = true) (h : bestS xs (2 ^ v) s) : mosM 0 (preM xs v v 0 0) = s := by
  have hp := pre_pair (xs := xs) hv v 0 0 (by simp)
  have hin : ∀ t, t < 2 ^ v → indB xs t = true → t ∈ preM xs v v 0 0 := fun t h1 h2 => pre_in v 0 0 t (by omega) (by simp) h1 h2 (fun j hj => by omega)
  have hout : ∀ t, t ∈ preM xs v v 0 0 → t < 2 ^ v ∧ indB xs t = true := fun t ht => pre_ind v 0 0 t (by simp) (Nat.two_pow_pos v) h0 ht
  obtain ⟨L, hL⟩ : ∃ L, preM xs v v 0 0 = 0 :: L := by
    cases v with
    | zero => exact ⟨[], rfl⟩
    | succ v => exact ⟨_, rfl⟩
  have e0 : mosM 0 (preM xs v v 0 0) = mosM 0 L := by
    rw [hL, mosM_cons]
    have : bstM 0 0 = 0 := by unfold bstM; split <;> rfl
    rw [this]
  rw [hL] at hp hin hout
  rw [List.pairwise_cons] at hp
  have hsp := mosM_spec L 0 hp.1 hp.2
  rw [e0]
  generalize hM : mosM 0 L = M at *
  have hMin : M ∈ 0 :: L := by
    rcases mosM_mem L 0 with h1 | h1
    · rw [← hM, h1]; simp
    · rw [← hM]; simp [h1]
  have hMi := hout M hMin
  have h1 := h.2.2 M hMi.1 hMi.2
  have h2 := hsp s (by have := hin s h.1 h.2.1; rwa [List.mem_cons] at this)
  rcases h2 with h2 | ⟨h2, h3⟩
  · omega
  · rcases h3 with h3 | h3
    · exact h3.symm
    · rcases h1 with h1 | ⟨h1, h4⟩
      · omega
      · exact absurd h3 h4

end Go.Proofs.Ytabgmjakkgalgaa

/- Plain laws of completions: the search by the first pair that is left. Conditions: stated in each. -/
namespace Go.Proofs.Ytabgmjakkgalgaa
set_option linter.unusedSimpArgs false
set_option linter.unusedVariables false

/-- the pairs of a block, as digits -/
def prM (a b p : Nat) : Nat := 2 ^ (a * 16 + b) ||| 2 ^ (a * 16 + p) ||| 2 ^ (b * 16 + p)
theorem prM_bit (a b p k : Nat) : (prM a b p).testBit k = (decide (k = a * 16 + b) || decide (k = a * 16 + p) || decide (k = b * 16 + p)) := by
  unfold prM
  rw [Nat.testBit_or, Nat.testBit_or, Nat.testBit_two_pow, Nat.testBit_two_pow, Nat.testBit_two_pow]
  simp only [eq_comm]
/-- the pair of a number is left -/
def frK (v u k : Nat) : Bool := decide (k / 16 < k % 16) && decide (k % 16 < v) && !u.testBit k
def nxtF (v u : Nat) : Nat → Nat → Nat
  | 0, k => k
  | f + 1, k => if frK v u k = true then k else nxtF v u f (k + 1)
/-- the first pair that is left, or 256 -/
def nxt (v u : Nat) : Nat := nxtF v u 256 0
theorem nxtF_spec (v u : Nat) : ∀ f k, k ≤ nxtF v u f k ∧ nxtF v u f k ≤ k + f ∧ (nxtF v u f k < k + f → frK v u (nxtF v u f k) = true) ∧ ∀ j, k ≤ j → j < nxtF v u f k → frK v u j = false := by
  intro f
  induction f with
  | zero => intro k; exact ⟨Nat.le_refl _, Nat.le_refl _, fun h => by rw [nxtF] at h; omega, fun j h1 h2 => by rw [nxtF] at h2; omega⟩
  | succ f ih =>
    intro k
    rw [nxtF]
    by_cases h : frK v u k = true
    · rw [if_pos h]; exact ⟨by omega, by omega, fun _ => h, fun j h1 h2 => by omega⟩
    · rw [if_neg h]
      obtain ⟨h1, h2, h3, h4⟩ := ih (k + 1)
      refine ⟨by omega, by omega, fun hh => h3 (by omega), fun j hj1 hj2 => ?_⟩
      by_cases e : j = k
      · subst e; simpa using h
      · exact h4 j (by omega) hj2
theorem nxt_le (v u : Nat) : nxt v u ≤ 256 := by have := (nxtF_spec v u 256 0).2.1; unfold nxt; omega
theorem nxt_fr {v u : Nat} (h : nxt v u < 256) : frK v u (nxt v u) = true := (nxtF_spec v u 256 0).2.2.1 (by unfold nxt at h; omega)
theorem nxt_min {v u : Nat} {j : Nat} (h : j < nxt v u) : frK v u j = false := (nxtF_spec v u 256 0).2.2.2 j (Nat.zero_le _) h
theorem nxt_is {v u k : Nat} (hk : k < 256) (h : frK v u k = true) (hm : ∀ j, j < k → frK v u j = false) : nxt v u = k := by
  rcases Nat.lt_trichotomy (nxt v u) k with h1 | h1 | h1
  · have := nxt_fr (v := v) (u := u) (by omega); rw [hm _ h1] at this; cases this
  · exact h1
  · have := nxt_min h1; rw [h] at this; cases this
theorem fr_iff {v u a b : Nat} (hb : b < 16) : frK v u (a * 16 + b) = true ↔ a < b ∧ b < v ∧ u.testBit (a * 16 + b) = false := by
  unfold frK
  have e1 : (a * 16 + b) / 16 = a := by omega
  have e2 : (a * 16 + b) % 16 = b := by omega
  rw [e1, e2]
  simp [and_assoc]
theorem nxt_ab {v u : Nat} (hv : v ≤ 15) (h : nxt v u < 256) : ∃ a b, nxt v u = a * 16 + b ∧ a < b ∧ b < v ∧ u.testBit (a * 16 + b) = false := by
  have hf := nxt_fr h
  have e : nxt v u = (nxt v u / 16) * 16 + nxt v u % 16 := by omega
  rw [e, fr_iff (Nat.mod_lt _ (by omega))] at hf
  exact ⟨_, _, e, hf⟩
/-- the pairs of a block are left -/
def fitQ3 (u a b p : Nat) : Bool := !u.testBit (a * 16 + b) && !u.testBit (a * 16 + p) && !u.testBit (b * 16 + p)
theorem fitQ3_iff {u a b p : Nat} : fitQ3 u a b p = true ↔ u.testBit (a * 16 + b) = false ∧ u.testBit (a * 16 + p) = false ∧ u.testBit (b * 16 + p) = false := by unfold fitQ3; simp [and_assoc]
def blkN (a b p : Nat) : Blk := ((a : Int), (b : Int), (p : Int))
/-- all ways to go on by d blocks -/
def enumC (v : Nat) : Nat → Nat → List Blk → List (List Blk)
  | 0, _, L => [L]
  | d + 1, u, L => loopG (fun p => enumC v d (u ||| prM (nxt v u / 16) (nxt v u % 16) p) (L ++ [blkN (nxt v u / 16) (nxt v u % 16) p])) (fun p => fitQ3 u (nxt v u / 16) (nxt v u % 16) p) (nxt v u % 16 + 1) v
theorem enumC_succ {v u a b : Nat} (d : Nat) (L : List Blk) (hb : b < 16) (h : nxt v u = a * 16 + b) : enumC v (d + 1) u L = loopG (fun p => enumC v d (u ||| prM a b p) (L ++ [blkN a b p])) (fun p => fitQ3 u a b p) (b + 1) v := by
  have e1 : nxt v u / 16 = a := by omega
  have e2 : nxt v u % 16 = b := by omega
  rw [enumC, e1, e2]
/-- how many pairs are left -/
def cntC (v u : Nat) : Nat := cntF (frK v u) 256
theorem cntC_zero {v u : Nat} : cntC v u = 0 ↔ nxt v u = 256 := by
  unfold cntC
  have key : ∀ n, cntF (frK v u) n = 0 ↔ ∀ j, j < n → frK v u j = false := by
    intro n
    induction n with
    | zero => simp [cntF]
    | succ n ih =>
      rw [cntF]
      constructor
      · intro h j hj
        by_cases e : j = n
        · subst e; cases hf : frK v u j
          · rfl
          · rw [hf] at h; simp at h
        · exact ih.1 (by omega) j (by omega)
      · intro h; rw [ih.2 (fun j hj => h j (by omega)), h n (by omega)]; rfl
  rw [key]
  constructor
  · intro h
    have h1 := nxt_le v u
    by_cases e : nxt v u = 256
    · exact e
    · have := nxt_fr (v := v) (u := u) (by omega); rw [h _ (by omega)] at this; cases this
  · intro h j hj; exact nxt_min (by omega)
theorem fr_put {v u a b p : Nat} (hv : v ≤ 15) (hab : a < b) (hbp : b < p) (hp : p < v) (hf : fitQ3 u a b p = true) (k : Nat) (hk : k < 256) : frK v u k = (frK v (u ||| prM a b p) k || (prM a b p).testBit k) ∧ (frK v (u ||| prM a b p) k && (prM a b p).testBit k) = false := by
  obtain ⟨f1, f2, f3⟩ := fitQ3_iff.1 hf
  have hin : (prM a b p).testBit k = true → frK v u k = true := by
    intro h
    rw [prM_bit] at h
    simp only [Bool.or_eq_true, decide_eq_true_eq] at h
    rcases h with (rfl | rfl) | rfl
    · exact (fr_iff (by omega)).2 ⟨by omega, by omega, f1⟩
    · exact (fr_iff (by omega)).2 ⟨by omega, by omega, f2⟩
    · exact (fr_iff (by omega)).2 ⟨by omega, by omega, f3⟩
  have e : frK v (u ||| prM a b p) k = (frK v u k && !(prM a b p).testBit k) := by
    unfold frK; rw [Nat.testBit_or]; cases u.testBit k <;> simp
  rw [e]
  cases h : (prM a b p).testBit k
  · simp
  · simp [hin h]
theorem cntC_put {v u a b p : Nat} (hv : v ≤ 15) (hab : a < b) (hbp : b < p) (hp : p < v) (hf : fitQ3 u a b p = true) : cntC v u = cntC v (u ||| prM a b p) + 3 := by
  unfold cntC
  rw [cntF_or (f := frK v (u ||| prM a b p)) (g := fun k => (prM a b p).testBit k) 256 (fun k hk => fr_put hv hab hbp hp hf k hk)]
  congr 1
  have h1 := cntF_eq (a * 16 + b) 256 (by omega)
  have h2 := cntF_eq (a * 16 + p) 256 (by omega)
  have h3 := cntF_eq (b * 16 + p) 256 (by omega)
  have h4 := cntF_or (f := fun k => decide (k = a * 16 + b)) (g := fun k => decide (k = a * 16 + p)) (h := fun k => decide (k = a * 16 + b) || decide (k = a * 16 + p)) 256 (fun j _ => ⟨rfl, by
    rw [← Bool.not_eq_true, Bool.and_eq_true, decide_eq_true_eq, decide_eq_true_eq]; omega⟩)
  have h5 := cntF_or (f := fun k => decide (k = a * 16 + b) || decide (k = a * 16 + p)) (g := fun k => decide (k = b * 16 + p)) (h := fun k => (prM a b p).testBit k) 256 (fun j _ => ⟨prM_bit a b p j, by
    rw [← Bool.not_eq_true, Bool.and_eq_true, Bool.or_eq_true, decide_eq_true_eq, decide_eq_true_eq, decide_eq_true_eq]; omega⟩)
  omega

/-- what each way looks like -/
theorem enumC_mem {v : Nat} (hv : v ≤ 15) : ∀ d u L M, cntC v u = 3 * d → M ∈ enumC v d u L → ∃ T, M = L ++ T ∧ T.length = d ∧ ∀ t ∈ T, ∃ x y z : Nat, t = blkN x y z ∧ x < y ∧ y < z ∧ z < v ∧ u.testBit (x * 16 + y) = false := by
  intro d
  induction d with
  | zero =>
    intro u L M hc hM
    rw [enumC, List.mem_singleton] at hM
    exact ⟨[], by rw [hM]; simp, rfl, fun t ht => by simp at ht⟩
  | succ d ih =>
    intro u L M hc hM
    have hlt : nxt v u < 256 := by
      have := nxt_le v u
      by_cases e : nxt v u = 256
      · have := cntC_zero.2 e; omega
      · omega
    obtain ⟨a, b, hn, hab, hb, hbit⟩ := nxt_ab hv hlt
    rw [enumC_succ d L (by omega) hn, loopG_mem] at hM
    obtain ⟨p, hp1, hp2, hp3, hM⟩ := hM
    have hput := cntC_put hv hab hp1 hp2 hp3
    obtain ⟨T, rfl, hl, hT⟩ := ih _ _ _ (by omega) hM
    refine ⟨blkN a b p :: T, by simp, by simp [hl], fun t ht => ?_⟩
    rw [List.mem_cons] at ht
    rcases ht with rfl | ht
    · exact ⟨a, b, p, rfl, hab, hp1, hp2, hbit⟩
    · obtain ⟨x, y, z, h1, h2, h3, h4, h5⟩ := hT t ht
      rw [Nat.testBit_or, Bool.or_eq_false_iff] at h5
      exact ⟨x, y, z, h1, h2, h3, h4, h5.1⟩
theorem bef_nat {x y z a b p : Nat} : befB (blkN x y z) (blkN a b p) = true ↔ x < a ∨ x = a ∧ (y < b ∨ y = b ∧ z < p) := by
  unfold befB blkN; simp only [decide_eq_true_eq]; omega
/-- a block that is put in later comes later -/
theorem later {v u a b p x y z : Nat} (hv : v ≤ 15) (hn : nxt v u = a * 16 + b) (hb : b < v) (hp : p < v) (hxy : x < y) (hyz : y < z) (hz : z < v) (h : (u ||| prM a b p).testBit (x * 16 + y) = false) (hab : a < b) : x * 16 + y > a * 16 + b := by
  rw [Nat.testBit_or, Bool.or_eq_false_iff, prM_bit] at h
  obtain ⟨h1, h2⟩ := h
  simp only [Bool.or_eq_false_iff, decide_eq_false_iff_not] at h2
  have : frK v u (x * 16 + y) = true := (fr_iff (by omega)).2 ⟨hxy, by omega, h1⟩
  rcases Nat.lt_or_ge (x * 16 + y) (a * 16 + b) with hlt | hge
  · rw [nxt_min (by omega)] at this; cases this
  · omega
theorem later_bef {x y z a b p : Nat} (hy : y < 16) (hb : b < 16) (h : x * 16 + y > a * 16 + b) : befB (blkN a b p) (blkN x y z) = true := by
  rw [bef_nat]; omega
/-- the ways are in order -/
theorem enumC_asc {v : Nat} (hv : v ≤ 15) : ∀ d u L M, cntC v u = 3 * d → M ∈ enumC v d u L → ∃ T, M = L ++ T ∧ T.Pairwise (fun s t => befB s t = true) := by
  intro d
  induction d with
  | zero =>
    intro u L M hc hM
    rw [enumC, List.mem_singleton] at hM
    exact ⟨[], by rw [hM]; simp, List.Pairwise.nil⟩
  | succ d ih =>
    intro u L M hc hM
    have hlt : nxt v u < 256 := by
      have := nxt_le v u
      by_cases e : nxt v u = 256
      · have := cntC_zero.2 e; omega
      · omega
    obtain ⟨a, b, hn, hab, hb, hbit⟩ := nxt_ab hv hlt
    rw [enumC_succ d L (by omega) hn, loopG_mem] at hM
    obtain ⟨p, hp1, hp2, hp3, hM⟩ := hM
    have hput := cntC_put hv hab hp1 hp2 hp3
    obtain ⟨T, rfl, hT⟩ := ih _ _ _ (by omega) hM
    obtain ⟨T', e, _, hT'⟩ := enumC_mem hv _ _ _ _ (by omega) hM
    have e' : T = T' := List.append_cancel_left e
    subst e'
    refine ⟨blkN a b p :: T, by simp, List.pairwise_cons.2 ⟨fun t ht => ?_, hT⟩⟩
    obtain ⟨x, y, z, rfl, h2, h3, h4, h5⟩ := hT' t ht
    exact later_bef (by omega) (by omega) (later hv hn hb hp2 h2 h3 h4 h5 hab)
/-- whether a list of blocks comes ahead of another one of the same length -/
def befL : List Blk → List Blk → Bool
  | a :: xs, b :: ys => if a = b then befL xs ys else befB a b
  | _, _ => false
theorem befL_pre (P : List Blk) {c b : Blk} (A B : List Blk) (h : befB c b = true) : befL (P ++ b :: B) (P ++ c :: A) = false := by
  induction P with
  | nil =>
    have hne : ¬ b = c := fun e => by rw [e, bef_irr] at h; cases h
    rw [List.nil_append, List.nil_append, befL, if_neg hne]
    cases hb : befB b c
    · rfl
    · have := bef_tr h hb; rw [bef_irr] at this; cases this
  | cons x P ih => rw [List.cons_append, List.cons_append, befL, if_pos rfl]; exact ih
theorem srt_split (S T : List Blk) (c : Blk) (hc : ∀ s ∈ S, befB s c = true ∨ befB c s = true) (hT : ∀ t ∈ T, befB c t = true) :
    srtL (S ++ T) = srtL (S.filter fun s => befB s c) ++ srtL ((S.filter fun s => befB c s) ++ T) := by
  have hlow : ∀ x ∈ srtL (S.filter fun s => befB s c), befB x c = true := fun x hx => by
    have := (srt_perm _).mem_iff.1 hx; simp only [List.mem_filter] at this; exact this.2
  have hhigh : ∀ x ∈ srtL ((S.filter fun s => befB c s) ++ T), befB c x = true := fun x hx => by
    have := (srt_perm _).mem_iff.1 hx
    simp only [List.mem_append, List.mem_filter] at this
    rcases this with h | h
    · exact h.2
    · exact hT x h
  refine srt_uniq ?_ ?_
  · refine ((srt_perm _).append (srt_perm _)).trans ?_
    rw [← List.append_assoc]
    refine List.Perm.append_right T ?_
    have hp := List.filter_append_perm (fun s => befB s c) S
    have e : S.filter (fun s => !befB s c) = S.filter (fun s => befB c s) := List.filter_congr fun s hs => by
      rcases hc s hs with h | h
      · rw [h]
        cases h2 : befB c s
        · rfl
        · have := bef_tr h h2; rw [bef_irr] at this; cases this
      · rw [h]
        cases h2 : befB s c
        · rfl
        · have := bef_tr h h2; rw [bef_irr] at this; cases this
    rw [e] at hp; exact hp
  · rw [List.pairwise_append]
    refine ⟨srt_sorted _, srt_sorted _, fun x hx y hy => bef_le (bef_tr (hlow x hx) (hhigh y hy))⟩
theorem srt_head {T : List Blk} {c : Blk} (hT : ∀ t ∈ T, befB c t = true) (S : List Blk) (hS : ∀ s ∈ S, befB c s = true) : srtL (S ++ c :: T) = c :: srtL (S ++ T) := by
  refine srt_uniq ?_ ?_
  · refine (List.Perm.cons c (srt_perm _)).trans ?_
    exact (List.perm_middle).symm
  · rw [List.pairwise_cons]
    refine ⟨fun x hx => ?_, srt_sorted _⟩
    have := (srt_perm _).mem_iff.1 hx
    rw [List.mem_append] at this
    rcases this with h | h
    · exact bef_le (hS x h)
    · exact bef_le (hT x h)
/-- ways in order are systems in order -/
theorem enumC_pair {v : Nat} (hv : v ≤ 15) (X : List Blk) : ∀ d u L, cntC v u = 3 * d → (∀ s ∈ X ++ L, ∃ x y z : Nat, s = blkN x y z ∧ x < y ∧ y < z ∧ z < v ∧ u.testBit (x * 16 + y) = true) →
    (enumC v d u L).Pairwise (fun M N => befL (srtL (X ++ N)) (srtL (X ++ M)) = false) := by
  intro d
  induction d with
  | zero => intro u L _ _; rw [enumC]; exact List.pairwise_singleton _ _
  | succ d ih =>
    intro u L hc hX
    have hlt : nxt v u < 256 := by
      have := nxt_le v u
      by_cases e : nxt v u = 256
      · have := cntC_zero.2 e; omega
      · omega
    obtain ⟨a, b, hn, hab, hb, hbit⟩ := nxt_ab hv hlt
    rw [enumC_succ d L (by omega) hn]
    have hput : ∀ p, b + 1 ≤ p → p < v → fitQ3 u a b p = true → cntC v (u ||| prM a b p) = 3 * d := fun p h1 h2 h3 => by have := cntC_put hv hab h1 h2 h3; omega
    refine loopG_pair v (fun p hp1 hp2 hp3 => ih _ _ (hput p hp1 hp2 hp3) fun s hs => ?_) fun p q hp1 hpq hq hfp hfq M hM N hN => ?_
    · rw [← List.append_assoc, List.mem_append, List.mem_singleton] at hs
      rcases hs with hs | rfl
      · obtain ⟨x, y, z, h1, h2, h3, h4, h5⟩ := hX s hs
        exact ⟨x, y, z, h1, h2, h3, h4, by rw [Nat.testBit_or, h5]; rfl⟩
      · exact ⟨a, b, p, rfl, hab, hp1, hp2, by rw [Nat.testBit_or, prM_bit]; simp⟩
    · obtain ⟨T1, rfl, _, hT1⟩ := enumC_mem hv _ _ _ _ (hput p hp1 (by omega) hfp) hM
      obtain ⟨T2, rfl, _, hT2⟩ := enumC_mem hv _ _ _ _ (hput q (by omega) hq hfq) hN
      have hS : ∀ s ∈ X ++ L, befB s (blkN a b p) = true ∨ befB (blkN a b p) s = true := fun s hs => by
        obtain ⟨x, y, z, rfl, h2, h3, h4, h5⟩ := hX s hs
        have : ¬ (x = a ∧ y = b) := fun ⟨e1, e2⟩ => by subst e1 e2; rw [hbit] at h5; cases h5
        rw [bef_nat, bef_nat]; omega
      have k1 : ∀ t ∈ T1, befB (blkN a b p) t = true := fun t ht => by
        obtain ⟨x, y, z, rfl, h2, h3, h4, h5⟩ := hT1 t ht
        exact later_bef (by omega) (by omega) (later hv hn hb (by omega) h2 h3 h4 h5 hab)
      have k2 : ∀ t ∈ T2, befB (blkN a b p) t = true := fun t ht => by
        obtain ⟨x, y, z, rfl, h2, h3, h4, h5⟩ := hT2 t ht
        exact later_bef (by omega) (by omega) (later hv hn hb hq h2 h3 h4 h5 hab)
      have hpq' : befB (blkN a b p) (blkN a b q) = true := by rw [bef_nat]; omega
      have e1 : X ++ (L ++ [blkN a b p] ++ T1) = (X ++ L) ++ (blkN a b p :: T1) := by simp
      have e2 : X ++ (L ++ [blkN a b q] ++ T2) = (X ++ L) ++ (blkN a b q :: T2) := by simp
      have hT2' : ∀ t ∈ blkN a b q :: T2, befB (blkN a b p) t = true := fun t ht => by
        rw [List.mem_cons] at ht
        rcases ht with rfl | ht
        · exact hpq'
        · exact k2 t ht
      have hfil : ∀ s ∈ (X ++ L).filter (fun s => befB (blkN a b p) s), befB (blkN a b p) s = true := fun s hs => by simp only [List.mem_filter] at hs; exact hs.2
      have e3 : srtL ((X ++ L) ++ (blkN a b p :: T1)) = srtL ((X ++ L).filter fun s => befB s (blkN a b p)) ++ blkN a b p :: srtL ((X ++ L).filter (fun s => befB (blkN a b p) s) ++ T1) := by
        have hsp := srt_split ((X ++ L) ++ [blkN a b p]) T1 (blkN a b p)
        refine srt_uniq ?_ ?_
        · rw [← srt_head k1 _ hfil]
          refine ((srt_perm _).append (srt_perm _)).trans ?_
          rw [← List.append_assoc]
          refine List.Perm.append_right _ ?_
          have hp := List.filter_append_perm (fun s => befB s (blkN a b p)) (X ++ L)
          have e : (X ++ L).filter (fun s => !befB s (blkN a b p)) = (X ++ L).filter (fun s => befB (blkN a b p) s) := List.filter_congr fun s hs => by
            rcases hS s hs with h | h
            · rw [h]
              cases h2 : befB (blkN a b p) s
              · rfl
              · have := bef_tr h h2; rw [bef_irr] at this; cases this
            · rw [h]
              cases h2 : befB s (blkN a b p)
              · rfl
              · have := bef_tr h h2; rw [bef_irr] at this; cases this
          rw [e] at hp; exact hp
        · rw [← srt_head k1 _ hfil, List.pairwise_append]
          refine ⟨srt_sorted _, srt_sorted _, fun x hx y hy => ?_⟩
          have hx' := (srt_perm _).mem_iff.1 hx
          have hy' := (srt_perm _).mem_iff.1 hy
          simp only [List.mem_filter] at hx'
          rw [List.mem_append, List.mem_cons] at hy'
          rcases hy' with h | rfl | h
          · exact bef_le (bef_tr hx'.2 (hfil y h))
          · exact bef_le hx'.2
          · exact bef_le (bef_tr hx'.2 (k1 y h))
      have e4 := srt_split (X ++ L) (blkN a b q :: T2) (blkN a b p) hS hT2'
      rw [e1, e2, e3, e4]
      have hne : ∃ y ys, srtL ((X ++ L).filter (fun s => befB (blkN a b p) s) ++ blkN a b q :: T2) = y :: ys ∧ befB (blkN a b p) y = true := by
        cases h : srtL ((X ++ L).filter (fun s => befB (blkN a b p) s) ++ blkN a b q :: T2) with
        | nil => have := srt_len ((X ++ L).filter (fun s => befB (blkN a b p) s) ++ blkN a b q :: T2); rw [h] at this; simp at this
        | cons y ys =>
          refine ⟨y, ys, rfl, ?_⟩
          have hy : y ∈ srtL ((X ++ L).filter (fun s => befB (blkN a b p) s) ++ blkN a b q :: T2) := by rw [h]; simp
          have := (srt_perm _).mem_iff.1 hy
          rw [List.mem_append] at this
          rcases this with h | h
          · exact hfil y h
          · exact hT2' y h
      obtain ⟨y, ys, e5, hy⟩ := hne
      rw [e5]
      exact befL_pre _ _ _ hy

end Go.Proofs.Ytabgmjakkgalgaa

/- Plain laws of searches that stop, over any kind of finds. Conditions: none. -/
namespace Go.Proofs.Ytabgmjakkgalgaa
set_option linter.unusedSimpArgs false
set_option linter.unusedVariables false

section
variable {α : Type}
def takeG (found : List α) (most : Nat) (Ls : List α) : List α := found ++ Ls.take (most - found.length)
theorem takeG_nil (found : List α) (most : Nat) : takeG found most [] = found := by simp [takeG]
theorem takeG_full {found : List α} {most : Nat} (h : most ≤ found.length) (Ls : List α) : takeG found most Ls = found := by
  unfold takeG
  have : most - found.length = 0 := by omega
  rw [this]; simp
theorem takeG_app (found : List α) (most : Nat) (A B : List α) : takeG found most (A ++ B) = takeG (takeG found most A) most B := by
  unfold takeG
  rw [List.take_append, List.append_assoc]
  congr 2
  rw [List.length_append, List.length_take]
  by_cases h : A.length ≤ most - found.length
  · rw [Nat.min_eq_right h]; congr 1; omega
  · have h1 : most - found.length - A.length = 0 := by omega
    have h2 : most - (found.length + min (most - found.length) A.length) = 0 := by omega
    rw [h1, h2]
theorem takeG_one {found : List α} {most : Nat} (h : found.length < most) (L : α) : takeG found most [L] = found ++ [L] := by
  unfold takeG
  rw [List.take_of_length_le (by simp; omega)]
theorem takeG_len {found : List α} {most : Nat} (h : found.length ≤ most) (Ls : List α) : (takeG found most Ls).length ≤ most := by
  unfold takeG; rw [List.length_append, List.length_take]; omega
theorem takeG_stop {f : Nat → List α} {p : Nat → Bool} {F D : List α} {most k a : Nat} (e : takeG F most (loopG f p a k) = D) (hD : most ≤ D.length) : ∀ n, k ≤ n → takeG F most (loopG f p a n) = D := by
  intro n
  induction n with
  | zero => intro h; obtain rfl : k = 0 := by omega
            exact e
  | succ n ih =>
    intro h
    by_cases hk : k = n + 1
    · subst hk; exact e
    · rw [loopG, takeG_app, ih (by omega), takeG_full hD]
def runG (cont : List α → Bool) : List α → List α → List α × Bool
  | [], C => (C, true)
  | L :: Ls, C => if cont (C ++ [L]) = true then runG cont Ls (C ++ [L]) else (C ++ [L], false)
theorem runG_app (cont : List α → Bool) : ∀ A B C, runG cont (A ++ B) C = if (runG cont A C).2 = true then runG cont B (runG cont A C).1 else runG cont A C := by
  intro A
  induction A with
  | nil => intro B C; simp [runG]
  | cons L A ih =>
    intro B C
    rw [List.cons_append, runG, runG]
    by_cases h : cont (C ++ [L]) = true
    · rw [if_pos h, if_pos h, ih]
    · rw [if_neg h, if_neg h]; simp
theorem runG_one (cont : List α → Bool) (L : α) (C : List α) : runG cont [L] C = (C ++ [L], cont (C ++ [L])) := by
  rw [runG]; cases cont (C ++ [L]) <;> simp [runG]
theorem runG_all {cont : List α → Bool} (h : ∀ C, cont C = true) : ∀ A C, runG cont A C = (C ++ A, true) := by
  intro A
  induction A with
  | nil => intro C; simp [runG]
  | cons L A ih => intro C; rw [runG, if_pos (h _), ih]; simp
theorem runG_stop {cont : List α → Bool} {f : Nat → List α} {p : Nat → Bool} {C D : List α} {k a : Nat} (e : runG cont (loopG f p a k) C = (D, false)) : ∀ n, k ≤ n → runG cont (loopG f p a n) C = (D, false) := by
  intro n
  induction n with
  | zero => intro h; obtain rfl : k = 0 := by omega
            exact e
  | succ n ih =>
    intro h
    by_cases hk : k = n + 1
    · subst hk; exact e
    · rw [loopG, runG_app, ih (by omega)]; simp
theorem runG_go {cont : List α → Bool} : ∀ {Ls C D : List α}, runG cont Ls C = (D, true) → (C = [] ∨ cont C = true) → (D = [] ∨ cont D = true) := by
  intro Ls
  induction Ls with
  | nil => intro C D h hc; simp only [runG, Prod.mk.injEq, and_true] at h; subst h; exact hc
  | cons L Ls ih =>
    intro C D h hc
    rw [runG] at h
    by_cases hh : cont (C ++ [L]) = true
    · rw [if_pos hh] at h; exact ih h (.inr hh)
    · rw [if_neg hh] at h; simp at h
theorem runG_cap (most : Nat) : ∀ (Ls C : List α), C.length < most → (runG (fun C => decide (C.length < most)) Ls C).1 = takeG C most Ls := by
  intro Ls
  induction Ls with
  | nil => intro C h; rw [takeG_nil]; rfl
  | cons L Ls ih =>
    intro C h
    have e : takeG C most (L :: Ls) = takeG (C ++ [L]) most Ls := by
      have := takeG_app C most [L] Ls
      rw [takeG_one h] at this
      exact this
    rw [runG, e]
    by_cases hl : (C ++ [L]).length < most
    · rw [if_pos (by simpa using hl)]; exact ih _ hl
    · rw [if_neg (by simpa using hl), takeG_full (by omega)]
end

end Go.Proofs.Ytabgmjakkgalgaa

/- Lists of systems in memory; conditions: none. -/
namespace Go.Proofs.Ytabgmjakkgalgaa
open Go.RowKit
set_option maxRecDepth 100000
set_option linter.unusedSimpArgs false
set_option linter.unusedVariables false

theorem infoSys' : (Try.prog.info? 30).map (fun i => (i.zero, i.size, i.bytes)) = some (some (.agg #[.int .i64 0, .slice none 0 0]), 2, 32) := by kernel_rfl
def nthB (ss : List (List Blk)) (k : Nat) : List Blk := ss.getD k []
theorem nthB_app {ss : List (List Blk)} {x : List Blk} {k : Nat} (h : k < ss.length) : nthB (ss ++ [x]) k = nthB ss k := by simp [nthB, List.getElem?_append_left h]
theorem nthB_last (ss : List (List Blk)) (x : List Blk) : nthB (ss ++ [x]) ss.length = x := by simp [nthB]
/-- the cells of k systems of n points -/
def hdS (n : Int) (hs : Nat → Value) (k : Nat) : List Value := (List.range k).flatMap fun i => [.int .i64 n, hs i]
theorem hdS_succ (n : Int) (hs : Nat → Value) (k : Nat) : hdS n hs (k + 1) = hdS n hs k ++ [.int .i64 n, hs k] := by simp [hdS, List.range_succ]
theorem hdS_len (n : Int) (hs : Nat → Value) : ∀ k, (hdS n hs k).length = k * 2 := by
  intro k
  induction k with
  | zero => rfl
  | succ k ih => rw [hdS_succ, List.length_append, ih]; simp; omega
theorem hdS_get (n : Int) (hs : Nat → Value) : ∀ k i, i < k → (hdS n hs k)[i * 2]? = some (.int .i64 n) ∧ (hdS n hs k)[i * 2 + 1]? = some (hs i) := by
  intro k
  induction k with
  | zero => intro i hi; omega
  | succ k ih =>
    intro i hi
    have hl := hdS_len n hs k
    rw [hdS_succ]
    by_cases e : i < k
    · rw [List.getElem?_append_left (by omega), List.getElem?_append_left (by omega)]; exact ih i e
    · obtain rfl : i = k := by omega
      rw [List.getElem?_append_right (by omega), List.getElem?_append_right (by omega)]
      have e1 : i * 2 - (hdS n hs i).length = 0 := by omega
      have e2 : i * 2 + 1 - (hdS n hs i).length = 1 := by omega
      rw [e1, e2]; exact ⟨rfl, rfl⟩
theorem hdS_congr {n : Int} {hs hs' : Nat → Value} : ∀ k, (∀ i, i < k → hs i = hs' i) → hdS n hs k = hdS n hs' k := by
  intro k
  induction k with
  | zero => intro _; rfl
  | succ k ih => intro h; rw [hdS_succ, hdS_succ, ih (fun i hi => h i (by omega)), h k (by omega)]
/-- rows of different types lie apart -/
theorem own_apart {w : World} {b1 b2 s1 s2 n1 n2 : Nat} {t1 t2 : TypeId} {u v : Value} {xs ys : List Value} (h : w.ownsRow b1 t1 s1 u n1 xs) (k : w.ownsRow b2 t2 s2 v n2 ys) (ht : t1 ≠ t2) : ∀ b, v.ownBlock = some b → u.ownBlock ≠ some b := by
  intro b e
  rcases k.2 with ⟨rfl, _⟩ | ⟨g, cap, cur, rfl, _, hg, _⟩
  · simp [Value.ownBlock] at e
  · have e2 : g = b := by simpa [Value.ownBlock] using e
    subst e2
    exact own_typed h ⟨cur, hg⟩ ht
theorem own_zone2 {w w' : World} {base size n : Nat} {t : TypeId} {v : Value} {xs : List Value} (h : w.ownsRow base t size v n xs) (hz : ∀ k, v.ownBlock = some k → k < w.heap.size → w'.heap[k]? = w.heap[k]?) : w'.ownsRow base t size v n xs := by
  refine ⟨h.1, ?_⟩
  rcases h.2 with h' | ⟨g, cap, cur, hv, hg, hR, r⟩
  · exact .inl h'
  · exact .inr ⟨g, cap, cur, hv, hg, (hz g (by rw [hv]; rfl) (Row.lt hR)).trans hR, r⟩
/-- u is a row of its own of systems of n points, each with blocks that are a row of their own, all apart; S has all their blocks -/
def LSS (S : Nat → Prop) (w : World) (base n : Nat) (u : Value) (ss : List (List Blk)) : Prop :=
  (∀ b, S b → b < w.heap.size) ∧ ∃ hs : Nat → Value, w.ownsRow base 30 2 u ss.length (hdS n hs ss.length) ∧ (∀ k, k < ss.length → OB w base (hs k) (nthB ss k)) ∧ (∀ j k, j < ss.length → k < ss.length → j ≠ k → ∀ b, (hs j).ownBlock = some b → (hs k).ownBlock ≠ some b) ∧ (∀ b, u.ownBlock = some b → S b) ∧ ∀ k, k < ss.length → ∀ b, (hs k).ownBlock = some b → S b
theorem LSS.nil (w : World) (base n : Nat) : LSS (fun _ => False) w base n (.slice none 0 0) [] := ⟨fun _ h => h.elim, fun _ => .slice none 0 0, World.ownsRow_nil _ _ _ _, fun k hk => by simp at hk, fun j k hj => by simp at hj, fun b e => by simp [Value.ownBlock] at e, fun k hk => by simp at hk⟩
theorem LSS.slice {S : Nat → Prop} {w : World} {base n : Nat} {u : Value} {ss : List (List Blk)} (h : LSS S w base n u ss) : ∃ A c, u = .slice A ss.length c := by
  obtain ⟨_, hs, ho, _⟩ := h; exact own_slice ho
theorem LSS.kept {S : Nat → Prop} {w w' : World} {base n : Nat} {u : Value} {ss : List (List Blk)} {row : Option Nat} (h : LSS S w base n u ss) (hg : w.grownBy w' row) (hr : ∀ k, row = some k → ¬ S k) : LSS S w' base n u ss := by
  obtain ⟨hl, hs, ho, hi, hd, hu, he⟩ := h
  refine ⟨fun b hb => Nat.lt_of_lt_of_le (hl b hb) hg.size, hs, ?_, fun k hk => ?_, hd, hu, he⟩
  · refine own_zone2 ho fun k e hk => hg.block k hk fun e2 => hr k e2.symm (hu k e)
  · exact own_zone2 (hi k hk) fun j e hj => hg.block j hj fun e2 => hr j e2.symm (he k hk j e)
theorem LSS.below {S : Nat → Prop} {w w' : World} {base n : Nat} {u : Value} {ss : List (List Blk)} (h : LSS S w base n u ss) (hb : Below w.heap.size w w') : LSS S w' base n u ss := h.kept (row := none) (grown_below hb none) (fun k e => by cases e)
theorem LSS.base {S : Nat → Prop} {w : World} {base b' n : Nat} {u : Value} {ss : List (List Blk)} (h : LSS S w base n u ss) (hb : b' ≤ base) : LSS S w b' n u ss := by
  obtain ⟨hl, hs, ho, hi, r⟩ := h
  exact ⟨hl, hs, own_base ho hb, fun k hk => OB.base (hi k hk) hb, r⟩
/-- one system more -/
theorem LSS.push {S : Nat → Prop} {w : World} {base n : Nat} {u : Value} {ss : List (List Blk)} (h : LSS S w base n u ss) : ∃ hs : Nat → Value, w.ownsRow base 30 2 u ss.length (hdS n hs ss.length) ∧
    ∀ (w1 w1' w2 : World) (r v2 : Value) (s : List Blk), Below w.heap.size w w1 → OB w1 base r s → (∀ b, r.ownBlock = some b → w.heap.size ≤ b) → Below w1.heap.size w1 w1' → w1'.grownBy w2 u.ownBlock → w2.ownsRow base 30 2 v2 (ss.length + 1) (hdS n hs ss.length ++ [.int .i64 n, r]) → (v2.ownBlock = u.ownBlock ∨ ∃ q, v2.ownBlock = some q ∧ w.heap.size ≤ q) →
      LSS (fun b => S b ∨ (w.heap.size ≤ b ∧ b < w2.heap.size)) w2 base n v2 (ss ++ [s]) := by
  obtain ⟨hl, hs, ho, hi, hd, hu, he⟩ := h
  refine ⟨hs, ho, fun w1 w1' w2 r v2 s hb hr hfr hb' hg hown hat => ?_⟩
  have hz1 := hb.size; have hz2 := hb'.size; have hz3 := hg.size
  have hslt : ∀ b, (∃ k, k < ss.length ∧ (hs k).ownBlock = some b) → b < w.heap.size := fun b ⟨k, hk, e⟩ => ((hi k hk).lt b e).2
  have hrlt : ∀ b, r.ownBlock = some b → b < w1.heap.size := fun b e => (hr.lt b e).2
  have hv2lt : ∀ b, v2.ownBlock = some b → b < w2.heap.size := fun b e => (hown.lt b e).2
  have hru : ∀ b, r.ownBlock = some b → u.ownBlock ≠ some b := fun b e e2 => by have := hfr b e; have := (ho.lt b e2).2; omega
  refine ⟨fun b hb2 => ?_, updA hs ss.length r, ?_, fun k hk => ?_, fun j k hj hk hjk b e => ?_, fun b e => ?_, fun k hk b e => ?_⟩
  · rcases hb2 with h | h
    · have := hl b h; omega
    · exact h.2
  · rw [List.length_append, List.length_singleton, hdS_succ, updA_same, hdS_congr (hs' := hs) _ (fun i hi2 => updA_ne hs r (by omega))]
    exact hown
  · rw [List.length_append, List.length_singleton] at hk
    by_cases ek : k = ss.length
    · subst ek
      rw [updA_same, nthB_last]
      exact own_zone2 (own_below hr hb') fun b e hb3 => hg.block b hb3 fun e2 => hru b e e2.symm
    · have hk2 : k < ss.length := by omega
      rw [updA_ne _ _ ek, nthB_app hk2]
      exact own_zone2 (own_below (own_below (hi k hk2) hb) hb') fun b e hb3 => hg.block b hb3 fun e2 => own_apart ho (hi k hk2) (by decide) b e e2.symm
  · rw [List.length_append, List.length_singleton] at hj hk
    by_cases ej : j = ss.length
    · subst ej
      rw [updA_same] at e
      rw [updA_ne _ _ (Ne.symm hjk)]
      intro e2; have := hfr b e; have := hslt b ⟨k, by omega, e2⟩; omega
    · rw [updA_ne _ _ ej] at e
      by_cases ek : k = ss.length
      · subst ek
        rw [updA_same]
        intro e2; have := hfr b e2; have := hslt b ⟨j, by omega, e⟩; omega
      · rw [updA_ne _ _ ek]; exact hd j k (by omega) (by omega) hjk b e
  · rcases hat with h | ⟨q, h, hq⟩
    · exact .inl (hu b (h ▸ e))
    · have := hv2lt b e
      rw [h] at e; simp only [Option.some.injEq] at e
      exact .inr ⟨by omega, this⟩
  · rw [List.length_append, List.length_singleton] at hk
    by_cases ek : k = ss.length
    · subst ek
      rw [updA_same] at e
      exact .inr ⟨hfr b e, by have := hrlt b e; omega⟩
    · rw [updA_ne _ _ ek] at e
      exact .inl (he k (by omega) b e)
/-- a system of a list, to be read -/
theorem LSS.rd {S : Nat → Prop} {w : World} {base n : Nat} {A : Option Addr} {m c : Nat} {ss : List (List Blk)} (h : LSS S w base n (.slice A m c) ss) {k : Nat} (hk : k < ss.length) :
    ∃ g B d, A = some ⟨g, 0, none⟩ ∧ g < w.heap.size ∧ base ≤ g ∧ w.cell? ⟨g, k * 2, none⟩ = some (.int .i64 n) ∧ w.cell? ⟨g, k * 2 + 1, none⟩ = some (.slice B (nthB ss k).length d) ∧ OB w base (.slice B (nthB ss k).length d) (nthB ss k) := by
  obtain ⟨_, hs, ho, hi, _⟩ := h
  obtain ⟨B, d, e⟩ := own_slice (hi k hk)
  rcases ho.2 with ⟨_, hn⟩ | ⟨g, cap, cur, hv, hge, hg, hnc, _, hcs, htk⟩
  · omega
  · simp only [Value.slice.injEq] at hv
    have key : ∀ j, j < ss.length * 2 → w.cell? ⟨g, j, none⟩ = (hdS n hs ss.length)[j]? := fun j hj => by
      rw [Row.cell (w := w) (t := 30) (cur := cur) hg, ← htk, List.getElem?_take_of_lt hj, Array.getElem?_toList]
    have h2 := hdS_get n hs ss.length k hk
    refine ⟨g, B, d, hv.1, Row.lt (w := w) (t := 30) (cur := cur) hg, hge, ?_, ?_, ?_⟩
    · rw [key _ (by omega)]; exact h2.1
    · rw [key _ (by omega), h2.2, e]
    · rw [← e]; exact hi k hk

end Go.Proofs.Ytabgmjakkgalgaa

/- Rows of truth values that a call makes and writes; conditions: none. -/
namespace Go.Proofs.Ytabgmjakkgalgaa
open Go.RowKit
set_option maxRecDepth 100000
set_option linter.unusedSimpArgs false
set_option linter.unusedVariables false

def bcells (n : Nat) (F : Nat → Bool) : Array Value := ((List.range n).map fun i => Value.bool (F i)).toArray
theorem bcells_size (n : Nat) (F : Nat → Bool) : (bcells n F).size = n := by simp [bcells]
theorem bcells_get {n i : Nat} (F : Nat → Bool) (h : i < n) : (bcells n F)[i]? = some (.bool (F i)) := by simp [bcells, h]
theorem bcells_set (n i : Nat) (F : Nat → Bool) (v : Bool) : (bcells n F).setIfInBounds i (.bool v) = bcells n (updA F i v) := by
  apply Array.ext_getElem?
  intro j
  rw [Array.getElem?_setIfInBounds, bcells_size]
  by_cases h : i = j
  · subst h
    rw [if_pos rfl]
    by_cases hi : i < n
    · rw [if_pos hi, bcells_get _ hi]; simp [updA]
    · rw [if_neg hi, Array.getElem?_eq_none (by rw [bcells_size]; omega)]
  · rw [if_neg h]
    by_cases hj : j < n
    · rw [bcells_get _ hj, bcells_get _ hj, updA, if_neg (fun e => h e.symm)]
    · rw [Array.getElem?_eq_none (by rw [bcells_size]; omega), Array.getElem?_eq_none (by rw [bcells_size]; omega)]
/-- Block g holds the n truth values F 0, F 1, .. -/
def Vb (w : World) (g n : Nat) (F : Nat → Bool) : Prop := Row w g 4 (bcells n F)
theorem Vb.lt {w : World} {g n : Nat} {F : Nat → Bool} (h : Vb w g n F) : g < w.heap.size := Row.lt h
theorem Vb.below {w w' : World} {g n : Nat} {F : Nat → Bool} (h : Vb w g n F) (hb : Below w.heap.size w w') : Vb w' g n F := Row.below h hb
theorem Vb.cell {w : World} {g n : Nat} {F : Nat → Bool} (h : Vb w g n F) {i : Nat} (hi : i < n) : w.cell? ⟨g, i, none⟩ = some (.bool (F i)) := (Row.cell h i).trans (bcells_get F hi)
theorem Vb.frozen {w : World} {g n : Nat} {F : Nat → Bool} (h : Vb w g n F) (i : Nat) : w.frozen? ⟨g, i, none⟩ = false := Row.frozen h i
theorem Vb.set {w : World} {g n : Nat} {F : Nat → Bool} (h : Vb w g n F) (i : Nat) (v : Bool) : Vb (w.setCell ⟨g, i, none⟩ (.bool v)) g n (updA F i v) := by
  have := Row.set h i (.bool v)
  rw [bcells_set] at this
  exact this
theorem Vb.ext {w : World} {g n : Nat} {F G : Nat → Bool} (h : Vb w g n F) (e : ∀ i, i < n → F i = G i) : Vb w g n G := by
  have : bcells n F = bcells n G := by unfold bcells; congr 1; exact List.map_congr_left fun i hi => by rw [e i (List.mem_range.1 hi)]
  unfold Vb at *; rwa [← this]
theorem Vb.grown {w w' : World} {g n : Nat} {F : Nat → Bool} {row : Option Nat} (h : Vb w g n F) (hg : w.grownBy w' row) (hne : row ≠ some g) : Vb w' g n F := Row.grown h hg hne
theorem Vb.far {w : World} {g n : Nat} {F : Nat → Bool} (h : Vb w g n F) {p : Addr} (hne : p.block ≠ g) (u : Value) : Vb (w.setCell p u) g n F := Row.far h hne u
theorem Vb.new (w : World) (n : Nat) (F : Nat → Bool) : Vb (w.alloc (.cells (bcells n F) 4)) w.heap.size n F := Row.new w _ _
theorem infoBool' : (Try.prog.info? 4).map (fun i => (i.zero, i.size, i.bytes)) = some (some (.bool false), 1, 1) := by kernel_rfl
theorem made_bools (n : Nat) : madeCells (Value.cells (.bool false)) (n * 1) = bcells n (fun _ => false) := by
  apply Array.ext'
  simp [bcells, madeCells, Value.cells, Nat.mod_one]
@[go_sem] theorem make_bools (m : Int) (W : World) (h0 : 0 ≤ m) (h1 : m ≤ 1000000) : (Instr.makeSlice 61 (.int .i64 m) (.int .i64 m)).run Try.prog W = .ok (.slice (some ⟨W.heap.size, 0, none⟩) m.toNat m.toNat) (W.alloc (.cells (bcells m.toNat (fun _ => false)) 4)) := by
  obtain ⟨ni0, hni, hni0, hni1, hni2⟩ := info_parts infoBool'
  have h := run_make (P := Try.prog) W 61 4 ni0 (.bool false) Try.underlying61 hni hni0 .i64 .i64 m m h0 (Int.le_refl _) (by rw [hni2]; omega) (by omega)
  rw [h, hni1, made_bools]

end Go.Proofs.Ytabgmjakkgalgaa

/- Contracts of FillSystem, of the reference and of the program; conditions: stated in each. -/
namespace Go.Proofs.Ytabgmjakkgalgaa
open Go.RowKit
set_option maxHeartbeats 2000000
set_option maxRecDepth 100000
set_option linter.unusedSimpArgs false
set_option linter.unusedVariables false

/-- The call returned a system, its blocks in a row of its own, and a code. -/
def LPB (w : World) (v : Int) (xs : List Blk) (k : Int) (e : Ending) (w' : World) : Prop :=
  ∃ B d, e = .returned (.tuple #[.agg #[.int .i64 v, .slice B xs.length d], .int .i64 k]) ∧ Own w' w.heap.size 80 3 (.slice B xs.length d) xs.length (cells3' xs) ∧ Below w.heap.size w w'
theorem LPB.mk {w w' : World} {u : Value} {v v' : Int} {xs xs' : List Blk} {k k' : Int} (h : OB w' w.heap.size u xs) (hv : v' = v) (hn : xs' = xs) (hk : k' = k) (hb : Below w.heap.size w w') : LPB w v' xs' k' (.returned (.tuple #[.agg #[.int .i64 v, u], .int .i64 k])) w' := by
  subst hv hn hk
  obtain ⟨B, d, rfl⟩ := own_slice h
  exact ⟨B, d, rfl, h, hb⟩
theorem Row.put2 {w : World} {g : Nat} {t : TypeId} {a b : Value} (h : Row w g t #[a, b]) (X Y : Value) : (w.setCell ⟨g, 0, none⟩ X).cell? ⟨g, 0, none⟩ = some X ∧ ((w.setCell ⟨g, 0, none⟩ X).setCell ⟨g, 1, none⟩ Y).cell? ⟨g, 1, none⟩ = some Y := ⟨(h.set 0 X).cell 0, ((h.set 0 X).set 1 Y).cell 1⟩
noncomputable def filR (v : Int) (xs : List Blk) : Int × List Blk × Int := if isSysB v xs = true then (v, srtL (fillK xs (triL (freeB xs) v.toNat) (triL (freeB xs) v.toNat).length), 0) else (0, [], 1)
theorem OB.keep2 {w : World} {base g : Nat} {u : Value} {xs : List Blk} (h : OB w base u xs) (hg : g < base) (X Y : Value) : OB ((w.setCell ⟨g, 0, none⟩ X).setCell ⟨g, 1, none⟩ Y) base u xs := by
  refine World.ownsRow.kept h (grown_set (grown_set (grown_refl w (some g)) 0 X) 1 Y) ?_
  cases e : u.ownBlock with
  | none => exact .inl rfl
  | some b =>
    right; intro e2
    have := (h.lt b e).1
    simp only [Option.some.injEq] at e2
    omega

end Go.Proofs.Ytabgmjakkgalgaa

/- Contracts of FillSystem of the reference; conditions: stated in each. -/
namespace Go.Proofs.Ytabgmjakkgalgaa
open Go.RowKit
set_option maxHeartbeats 2000000
set_option maxRecDepth 100000
set_option linter.unusedSimpArgs false
set_option linter.unusedVariables false

section
variable {P : Program} (w : World)
theorem run_append_zero (base : Nat) (t ty e : TypeId) (i : TypeInfo) (size : Nat) (ht : P.underlying t = some (.slice e)) (hi : P.info? e = some i)
    (v : Value) (n : Nat) (xs : List Value) (hown : w.ownsRow base e size v n xs) (A : Option Addr) (c : Nat) :
    (Builtin.append_ #[t, t] ty #[v, .slice A 0 c]).run P w = .ok v w := by
  rcases hown.2 with ⟨rfl, rfl⟩ | ⟨g, cap, cur, rfl, _, _, hnc, _⟩
  · cases A <;> simp [Builtin.append_, run_underlying ht, sizeOf, typeInfo, hi, Builtin.lenOf, Builtin.firstCells, loadCells, loadCellsFrom]
  · cases A <;> simp [Builtin.append_, run_underlying ht, sizeOf, typeInfo, hi, Builtin.lenOf, Builtin.firstCells, hnc, storeCells, loadCells, loadCellsFrom]
/-- append of nothing to a row of the call's own, at a step of a region that draws. -/
theorem step_append_zero {ops : Array Oper} {o : Oper} {a : Act} {K : Act → World → Prop} {Q : Exit → Act → World → Prop} {E : Prop} (hgd : o.guard = none) (s x : Operand) (t : TypeId)
    (ho : o.op = .call { callee := .builtin .append, args := #[s, x], argTypes := #[t, t] })
    (base : Nat) (e : TypeId) (i : TypeInfo) (size : Nat) (ht : P.underlying t = some (.slice e)) (hi : P.info? e = some i)
    (v : Value) (n : Nat) (xs : List Value) (hs : a.eval s = v) (hown : w.ownsRow base e size v n xs) (A : Option Addr) (c : Nat) (hx : a.eval x = .slice A 0 c)
    (h : K (a.put o.dst v) w) : if Region.wanted o (yielded ops a.tmps) = true then Oper.wp P o a w K Q else E := by
  have hw : Region.wanted o (yielded ops a.tmps) = true := by simp [Region.wanted, hgd]
  rw [if_pos hw]
  have hr := run_append_zero (P := P) w base t o.type e i size ht hi v n xs hown A c
  unfold Oper.wp execOp
  simp only [ho, resolve, invoke, builtin, Sem.run_bind, Sem.run_pure, Result.andThen_ok, List.map_toArray, List.map_cons, List.map_nil, hs, hx, hr]
  exact h
end

theorem l01Made_any (v : Int) (A : Option Addr) (c : Nat) (xs : List Blk) (w : World) (hA : Bl w A xs) (hl : xs.length ≤ 1048576) :
    Calls Try.prog 85 #[.int .i64 v, .slice A xs.length c] w fun e w' => ∃ u, e = .returned (.agg #[.int .i64 v, u]) ∧ OB w' w.heap.size u (srtL xs) ∧ Below w.heap.size w w' := by
  have HB0 := Lib.hid (below_alloc w (.cells #[.int .i64 0, .slice none 0 0] 30))
  have HR := Lib.hid (Row.new w 30 #[.int .i64 0, .slice none 0 0])
  have HA := Lib.hid (hA.below HB0.out); clear hA
  have HSZ : Hid ((w.alloc (.cells #[.int .i64 0, .slice none 0 0] 30)).heap.size = w.heap.size + 1) := World.size_alloc _ _
  go_enter Try.func85, Try.ntmps85
  go_wp2_with fail
  refine (l01Sort_any A c xs _ HA.out hl).mono ?_
  rintro e w1 ⟨u, rfl, hO, hb⟩
  obtain ⟨B, d, rfl⟩ := own_slice hO
  have HO := Lib.hid hO
  have HB1 := Lib.hid (HB0.out.trans (hb.mono HB0.out.size))
  have hR := HR.out.below hb
  obtain ⟨c0, c1⟩ := hR.c2
  have f0 := hR.frozen 0
  have f1 := hR.frozen 1
  have hlt := hR.lt
  have k0 : (w1.setCell ⟨w.heap.size, 0, none⟩ (.int .i64 v)).cell? ⟨w.heap.size, 0, none⟩ = some (.int .i64 v) := (hR.set 0 _).cell 0
  have k1 : ((w1.setCell ⟨w.heap.size, 0, none⟩ (.int .i64 v)).setCell ⟨w.heap.size, 1, none⟩ (.slice B (srtL xs).length d)).cell? ⟨w.heap.size, 1, none⟩ = some (.slice B (srtL xs).length d) := ((hR.set 0 _).set 1 _).cell 1
  have HOK : Hid (∀ X Y : Value, OB ((w1.setCell ⟨w.heap.size, 0, none⟩ X).setCell ⟨w.heap.size, 1, none⟩ Y) w.heap.size (.slice B (srtL xs).length d) (srtL xs)) := by
    intro X Y
    refine OB.base (base := (w.alloc (.cells #[.int .i64 0, .slice none 0 0] 30)).heap.size) ?_ (by have := HSZ.out; omega)
    refine World.ownsRow.kept hO (grown_set (grown_set (grown_refl w1 (some w.heap.size)) 0 X) 1 Y) ?_
    cases B with
    | none => exact .inl rfl
    | some ad =>
      right
      intro e
      have := (hO.lt ad.block rfl).1
      have := HSZ.out
      simp [Value.ownBlock] at e
      omega
  have HBB : Hid (∀ X Y : Value, Below w.heap.size w ((w1.setCell ⟨w.heap.size, 0, none⟩ X).setCell ⟨w.heap.size, 1, none⟩ Y)) := fun X Y => (HB1.out.setCell (Nat.le_refl _) _).setCell (Nat.le_refl _) _
  clear hO hb hR
  go_wp2
  (try simp only [Exit.inBlock, Exit.then])
  refine bodyPost_ret (by simp [results, Try.results85, go_sem, k0, k1]; try rfl) rfl ?_
  exact ⟨_, rfl, HOK.out _ _, HBB.out _ _⟩


end Go.Proofs.Ytabgmjakkgalgaa

/- Words for the reference's search for completions in memory; conditions: none. -/
namespace Go.Proofs.Ytabgmjakkgalgaa
open Go.RowKit
set_option maxRecDepth 100000
set_option linter.unusedSimpArgs false
set_option linter.unusedVariables false

theorem infoBlks' : (Try.prog.info? 28).map (fun i => (i.zero, i.size, i.bytes)) = some (some (.slice none 0 0), 1, 24) := by kernel_rfl
/-- the cells of the reference's search: its number of points, used pairs, how many it has, how many it wants, whether they are kept, those that are kept -/
def sVals (n g k most : Nat) (keep : Bool) (u : Value) : Array Value := #[.int .i64 n, .slice (some ⟨g, 0, none⟩) 256 256, .int .i64 k, .int .i64 most, .bool keep, u]
def Sk (w : World) (s n g k most : Nat) (keep : Bool) (u : Value) : Prop := Row w s 64 (sVals n g k most keep u)
theorem Sk.lt {w : World} {s n g k most : Nat} {keep : Bool} {u : Value} (h : Sk w s n g k most keep u) : s < w.heap.size := Row.lt h
theorem Sk.c6 {w : World} {s n g k most : Nat} {keep : Bool} {u : Value} (h : Sk w s n g k most keep u) : w.cell? ⟨s, 0, none⟩ = some (.int .i64 n) ∧ w.cell? ⟨s, 1, none⟩ = some (.slice (some ⟨g, 0, none⟩) 256 256) ∧ w.cell? ⟨s, 2, none⟩ = some (.int .i64 k) ∧ w.cell? ⟨s, 3, none⟩ = some (.int .i64 most) ∧ w.cell? ⟨s, 4, none⟩ = some (.bool keep) ∧ w.cell? ⟨s, 5, none⟩ = some u :=
  ⟨(Row.cell h 0).trans rfl, (Row.cell h 1).trans rfl, (Row.cell h 2).trans rfl, (Row.cell h 3).trans rfl, (Row.cell h 4).trans rfl, (Row.cell h 5).trans rfl⟩
theorem Sk.frozen {w : World} {s n g k most : Nat} {keep : Bool} {u : Value} (h : Sk w s n g k most keep u) (i : Nat) : w.frozen? ⟨s, i, none⟩ = false := Row.frozen h i
theorem Sk.below {w w' : World} {s n g k most : Nat} {keep : Bool} {u : Value} (h : Sk w s n g k most keep u) (hb : Below w.heap.size w w') : Sk w' s n g k most keep u := Row.below h hb
theorem Sk.grown {w w' : World} {s n g k most : Nat} {keep : Bool} {u : Value} {row : Option Nat} (h : Sk w s n g k most keep u) (hg : w.grownBy w' row) (hne : row ≠ some s) : Sk w' s n g k most keep u := Row.grown h hg hne
theorem Sk.far {w : World} {s n g k most : Nat} {keep : Bool} {u : Value} (h : Sk w s n g k most keep u) {p : Addr} (hne : p.block ≠ s) (v : Value) : Sk (w.setCell p v) s n g k most keep u := Row.far h hne v
theorem Sk.count {w : World} {s n g k most : Nat} {keep : Bool} {u : Value} (h : Sk w s n g k most keep u) (j : Nat) : Sk (w.setCell ⟨s, 2, none⟩ (.int .i64 j)) s n g j most keep u := Row.set h 2 (.int .i64 j)
theorem Sk.incr {w : World} {s n g k most : Nat} {keep : Bool} {u : Value} (h : Sk w s n g k most keep u) : Sk (w.setCell ⟨s, 2, none⟩ (.int .i64 ((k : Int) + 1))) s n g (k + 1) most keep u := by
  have := h.count (k + 1)
  have e : ((k + 1 : Nat) : Int) = (k : Int) + 1 := by omega
  rw [e] at this; exact this
theorem Sk.found {w : World} {s n g k most : Nat} {keep : Bool} {u : Value} (h : Sk w s n g k most keep u) (v : Value) : Sk (w.setCell ⟨s, 5, none⟩ v) s n g k most keep v := Row.set h 5 v
/-- u is a row of its own of the headers of lists of blocks that are rows of their own -/
def LBq (w : World) (base : Nat) (u : Value) (F : List (List Blk)) : Prop :=
  ∃ vs, w.ownsRow base 28 1 u F.length vs ∧ ∀ k, k < F.length → ∃ h, vs[k]? = some h ∧ OB w base h (nthB F k)
theorem LBq.below {w w' : World} {base : Nat} {u : Value} {F : List (List Blk)} (h : LBq w base u F) (hb : Below w.heap.size w w') : LBq w' base u F := by
  obtain ⟨vs, ho, hi⟩ := h
  refine ⟨vs, own_below ho hb, fun k hk => ?_⟩
  obtain ⟨r, h1, h2⟩ := hi k hk
  exact ⟨r, h1, h2.below hb⟩
theorem LBq.slice {w : World} {base : Nat} {u : Value} {F : List (List Blk)} (h : LBq w base u F) : ∃ A c, u = .slice A F.length c := by obtain ⟨vs, ho, _⟩ := h; exact own_slice ho
theorem LBq.lt {w : World} {base : Nat} {u : Value} {F : List (List Blk)} (h : LBq w base u F) : ∀ b, u.ownBlock = some b → base ≤ b ∧ b < w.heap.size := by obtain ⟨vs, ho, _⟩ := h; exact fun b e => ho.lt b e
/-- a write into a block of another type -/
theorem LBq.kept {w w' : World} {base s : Nat} {ts : TypeId} {u : Value} {F : List (List Blk)} (h : LBq w base u F) (hg : w.grownBy w' (some s)) (hs : ∃ cur, Row w s ts cur) (h1 : (28 : TypeId) ≠ ts) (h2 : (80 : TypeId) ≠ ts) : LBq w' base u F := by
  obtain ⟨vs, ho, hi⟩ := h
  refine ⟨vs, World.ownsRow.kept ho hg (.inr (own_typed ho hs h1)), fun k hk => ?_⟩
  obtain ⟨r, e1, e2⟩ := hi k hk
  exact ⟨r, e1, World.ownsRow.kept e2 hg (.inr (own_typed e2 hs h2))⟩
/-- one list more -/
theorem LBq.push {w : World} {base : Nat} {u : Value} {F : List (List Blk)} (h : LBq w base u F) : ∃ vs, w.ownsRow base 28 1 u F.length vs ∧ ∀ (w1 w2 : World) (r v2 : Value) (L : List Blk), Below w.heap.size w w1 → OB w1 base r L →
    ∀ w1', Below w1.heap.size w1 w1' → w1'.grownBy w2 u.ownBlock → w2.ownsRow base 28 1 v2 (F.length + 1) (vs ++ [r]) → LBq w2 base v2 (F ++ [L]) := by
  obtain ⟨vs, ho, hi⟩ := h
  have hvl : vs.length = F.length := by simpa using ho.1
  refine ⟨vs, ho, fun w1 w2 r v2 L hb hr w1' hb' hg hown => ?_⟩
  have ho1 := own_below (own_below ho hb) hb'
  refine ⟨vs ++ [r], by rw [List.length_append]; exact hown, fun k hk => ?_⟩
  rw [List.length_append, List.length_singleton] at hk
  by_cases e : k = F.length
  · subst e
    refine ⟨r, by rw [← hvl]; simp, ?_⟩
    rw [nthB_last]
    exact own_zone2 (own_below hr hb') fun b e hb3 => hg.block b hb3 fun e2 => own_apart ho1 (own_below hr hb') (by decide) b e e2.symm
  · obtain ⟨x, e1, e2⟩ := hi k (by omega)
    refine ⟨x, by rw [List.getElem?_append_left (by omega)]; exact e1, ?_⟩
    rw [nthB_app (by omega)]
    have e3 := own_below (own_below e2 hb) hb'
    exact own_zone2 e3 fun b e hb3 => hg.block b hb3 fun e4 => own_apart ho1 e3 (by decide) b e e4.symm
/-- a list of a list, to be read -/
theorem LBq.rd {w : World} {base : Nat} {A : Option Addr} {m c : Nat} {F : List (List Blk)} (h : LBq w base (.slice A m c) F) {k : Nat} (hk : k < F.length) :
    ∃ g B d, A = some ⟨g, 0, none⟩ ∧ g < w.heap.size ∧ w.cell? ⟨g, k, none⟩ = some (.slice B (nthB F k).length d) ∧ Bl w B (nthB F k) := by
  obtain ⟨vs, ho, hi⟩ := h
  obtain ⟨r, e1, e2⟩ := hi k hk
  obtain ⟨B, d, rfl⟩ := own_slice e2
  rcases ho.2 with ⟨_, hn⟩ | ⟨g, cap, cur, hv, hge, hg, hnc, _, hcs, htk⟩
  · omega
  · simp only [Value.slice.injEq] at hv
    refine ⟨g, B, d, hv.1, Row.lt (w := w) (t := 28) (cur := cur) hg, ?_, OB.bl e2⟩
    rw [Row.cell (w := w) (t := 28) (cur := cur) hg, ← Array.getElem?_toList, ← e1, ← htk, List.getElem?_take_of_lt (by omega)]
/-- what a search leaves: but for its own block s, the used pairs g and the row of v, all is as it was -/
structure Gk (w w' : World) (s g : Nat) (v u : Value) : Prop where
  os : w'.os = w.os
  tape : w'.tape = w.tape
  output : w'.output = w.output
  size : w.heap.size ≤ w'.heap.size
  block : ∀ k, k < w.heap.size → k ≠ s → k ≠ g → v.ownBlock ≠ some k → w'.heap[k]? = w.heap[k]?
  at_ : u.ownBlock = v.ownBlock ∨ ∃ b, u.ownBlock = some b ∧ w.heap.size ≤ b
theorem Gk.refl (w : World) (s g : Nat) (v : Value) : Gk w w s g v v := ⟨rfl, rfl, rfl, Nat.le_refl _, fun _ _ _ _ _ => rfl, .inl rfl⟩
theorem Gk.join {w a b : World} {s g : Nat} {v u x : Value} (h : Gk w a s g v u) (k : Gk a b s g u x) : Gk w b s g v x := by
  refine ⟨k.os.trans h.os, k.tape.trans h.tape, k.output.trans h.output, Nat.le_trans h.size k.size, fun j hj h1 h2 h3 => ?_, ?_⟩
  · refine (k.block j (Nat.lt_of_lt_of_le hj h.size) h1 h2 ?_).trans (h.block j hj h1 h2 h3)
    rcases h.at_ with e | ⟨q, e, hq⟩
    · rw [e]; exact h3
    · rw [e]; intro e2; simp only [Option.some.injEq] at e2; omega
  · rcases k.at_ with e | ⟨q, e, hq⟩
    · rw [e]; exact h.at_
    · exact .inr ⟨q, e, Nat.le_trans h.size hq⟩
theorem Gk.grown {w a b : World} {s g : Nat} {v u x : Value} {row : Option Nat} (h : Gk w a s g v u) (k : a.grownBy b row) (hr : row = none ∨ row = some s ∨ row = some g ∨ row = u.ownBlock) (hx : x.ownBlock = u.ownBlock ∨ ∃ q, x.ownBlock = some q ∧ a.heap.size ≤ q) : Gk w b s g v x := by
  refine h.join ⟨k.os, k.tape, k.output, k.size, fun j hj h1 h2 h3 => k.block j hj ?_, hx⟩
  rcases hr with rfl | rfl | rfl | rfl
  · exact fun e => by cases e
  · exact fun e => by simp only [Option.some.injEq] at e; exact h1 e
  · exact fun e => by simp only [Option.some.injEq] at e; exact h2 e
  · exact fun e => h3 e.symm
theorem Gk.below {w a b : World} {s g : Nat} {v u : Value} (h : Gk w a s g v u) (hb : Below a.heap.size a b) : Gk w b s g v u := h.grown (grown_below hb none) (.inl rfl) (.inl rfl)
theorem Gk.out {w a : World} {s g B : Nat} {v u : Value} (h : Gk w a s g v u) (hB : B ≤ w.heap.size) (hs : B ≤ s) (hg : B ≤ g) (hv : ∀ b, v.ownBlock = some b → B ≤ b) : Below B w a :=
  ⟨h.os, h.tape, h.output, h.size, fun k hk => h.block k (by omega) (by omega) (by omega) fun e => by have := hv k e; omega⟩
/-- a row of another type stays -/
theorem Gk.ob {w a : World} {s g b0 n : Nat} {most gg kk : Nat} {keep : Bool} {x : Value} {F : Nat → Bool} {v u bl : Value} {L : List Blk} {G : List (List Blk)} {base : Nat} (h : Gk w a s g v u) (hO : OB w b0 bl L) (hS : Sk w s n gg kk most keep x) (hG : Vb w g 256 F) (hv : LBq w base v G) : OB a b0 bl L := by
  obtain ⟨vs, hvo, _⟩ := hv
  exact own_zone2 hO fun b e hb => h.block b hb (fun e2 => own_typed hO ⟨_, hS⟩ (by decide) (e2 ▸ e)) (fun e2 => own_typed hO ⟨_, hG⟩ (by decide) (e2 ▸ e)) (own_apart hvo hO (by decide) b e)
theorem step_append_blk {ops : Array Oper} {o : Oper} {a : Act} {K : Act → World → Prop} {Q : Exit → Act → World → Prop} {E : Prop} (W : World) (hgd : o.guard = none) (s x : Operand)
    (ho : o.op = .call { callee := .builtin .append, args := #[s, x], argTypes := #[28, 28] }) (base : Nat) (v : Value) (hs : a.eval s = v) (xs : List Blk) (hown : OB W base v xs) (A : Option Addr) (c : Nat) (ys : List Blk) (hx : a.eval x = .slice A ys.length c) (hb : Bl W A ys) (hlx : xs.length ≤ 1048576) (hl : ys.length ≤ 1048576) (hbase : base ≤ W.heap.size)
    (h : ∀ v9 w9, OB w9 base v9 (xs ++ ys) → W.grownBy w9 v.ownBlock → (v9.ownBlock = v.ownBlock ∨ v9.ownBlock = some W.heap.size) → K (a.put o.dst v9) w9) :
    if Region.wanted o (yielded ops a.tmps) = true then Oper.wp Try.prog o a W K Q else E := by
  obtain ⟨bi0, hbi, hbi0, hbi1, hbi2⟩ := info_parts infoBlk'
  by_cases h0 : ys = []
  · subst h0
    refine step_append_zero W hgd s x 28 ho base 80 bi0 3 Try.underlying28 hbi v xs.length (cells3' xs) hs hown A c hx (h v W (by rw [List.append_nil]; exact hown) (grown_refl _ _) (.inl rfl))
  · have hp : 0 < ys.length := List.length_pos_iff.2 h0
    obtain ⟨g, o2, hA1, hgl, _⟩ := hb.at_ hp
    subst hA1
    refine step_append_lies W hgd s x 28 ho base 80 bi0 (.agg #[.int .i64 0, .int .i64 0, .int .i64 0]) 3 24 Try.underlying28 hbi hbi0 hbi1 hbi2 rfl (by decide) v xs.length (cells3' xs) hs hown ⟨g, o2, none⟩ ys.length c (cells3' ys) hx (cells3'_len ys) (Bl.cells hb) cells3_one hp (by unfold maxLen; omega) (by omega) hbase W.heap.size rfl ?_
    intro g9 cap w9 ho9 hg9 hat _
    refine h _ w9 ?_ hg9 (hat.imp (fun e => e.symm) (fun e => by rw [e]; rfl))
    unfold OB
    rw [cells3'_app, List.length_append]; exact ho9
theorem wpList_append_blk {ops : Array Oper} {rest : List Oper} {o : Oper} {a : Act} {Q : Exit → Act → World → Prop} (W : World) (hgd : o.guard = none) (s x : Operand)
    (ho : o.op = .call { callee := .builtin .append, args := #[s, x], argTypes := #[28, 28] }) (base : Nat) (v : Value) (hs : a.eval s = v) (xs : List Blk) (hown : OB W base v xs) (A : Option Addr) (c : Nat) (ys : List Blk) (hx : a.eval x = .slice A ys.length c) (hb : Bl W A ys) (hlx : xs.length ≤ 1048576) (hl : ys.length ≤ 1048576) (hbase : base ≤ W.heap.size)
    (h : ∀ v9 w9, OB w9 base v9 (xs ++ ys) → W.grownBy w9 v.ownBlock → (v9.ownBlock = v.ownBlock ∨ v9.ownBlock = some W.heap.size) → wpList Try.prog ops Q rest (a.put o.dst v9) w9) : wpList Try.prog ops Q (o :: rest) a W := by
  refine wpList_plain hgd fun K hK => ?_
  have h2 := step_append_blk (ops := ops) (K := K) (Q := Q) (E := True) W hgd s x ho base v hs xs hown A c ys hx hb hlx hl hbase (fun v9 w9 h1 h2 h3 => hK _ _ (h v9 w9 h1 h2 h3))
  have hw : Region.wanted o (yielded ops a.tmps) = true := by simp [Region.wanted, hgd]
  rwa [if_pos hw] at h2

end Go.Proofs.Ytabgmjakkgalgaa

/- Words for the program's search for renumberings in memory; conditions: none. -/
namespace Go.Proofs.Ytabgmjakkgalgaa
open Go.RowKit

/-- the cells of a search: its number of points, two grids, images, used points, what is called -/
def sVal (n gx gy : Nat) (ev : Value) (to : Nat → Int) (us : Nat → Bool) (i : Nat) : Value :=
  if i = 0 then .int .i64 n else if i = 1 then .pointer (some ⟨gx, 0, none⟩) else if i = 2 then .pointer (some ⟨gy, 0, none⟩) else if i < 18 then .int .i64 (to (i - 3)) else if i < 33 then .bool (us (i - 18)) else ev
def sCells (n gx gy : Nat) (ev : Value) (to : Nat → Int) (us : Nat → Bool) : Array Value := ((List.range 34).map (sVal n gx gy ev to us)).toArray
theorem sCells_get (n gx gy : Nat) (ev : Value) (to : Nat → Int) (us : Nat → Bool) {i : Nat} (h : i < 34) : (sCells n gx gy ev to us)[i]? = some (sVal n gx gy ev to us i) := by simp [sCells, h]
theorem Gr.far {w : World} {g : Nat} {G : Nat → Int} (h : Gr w g G) {p : Addr} (hne : p.block ≠ g) (u : Value) : Gr (w.setCell p u) g G := (Below.heap_setCell w p u g (fun e => hne e.symm)).trans h

end Go.Proofs.Ytabgmjakkgalgaa

/- Words for the program's search for completions in memory; conditions: none. -/
namespace Go.Proofs.Ytabgmjakkgalgaa
open Go.RowKit
set_option linter.unusedSimpArgs false
set_option linter.unusedVariables false

/-- a grid has no third point at the pairs that are left -/
def GM (G : Nat → Int) (m : Nat) : Prop := ∀ a b, a < b → b < 15 → (G (a * 15 + b) = -1 ↔ m.testBit (a * 16 + b) = false)
theorem blk_good {a b p v : Nat} (hab : a < b) (hbp : b < p) (hp : p < v) : goodB v (blkN a b p) = true := by unfold goodB blkN; simp only [decide_eq_true_eq]; omega
theorem inB_nat {a b p x y : Nat} (hab : a < b) (hbp : b < p) (hxy : x < y) (hy : y < 15) (hp : p < 15) : inB (blkN a b p) x y = (prM a b p).testBit (x * 16 + y) := by
  rw [prM_bit, Bool.eq_iff_iff, inB_iff, has_iff, has_iff]
  simp only [Bool.or_eq_true, decide_eq_true_eq, blkN]
  omega
theorem GM.put {G : Nat → Int} {m a b p : Nat} (h : GM G m) (hab : a < b) (hbp : b < p) (hp : p < 15) : GM (putG G (blkN a b p) true) (m ||| prM a b p) := by
  intro x y hxy hy
  have hg := blk_good hab hbp hp
  have h2 := putG_cell G hg (p := x) (q := y) (by omega) (by omega) (by omega) true
  simp only [Int.toNat_natCast] at h2
  rw [h2, inB_nat hab hbp hxy hy hp, Nat.testBit_or]
  cases hb : (prM a b p).testBit (x * 16 + y)
  · rw [if_neg (by simp), Bool.or_false]; exact h x y hxy hy
  · rw [if_pos rfl, Bool.or_true]
    rw [← inB_nat hab hbp hxy hy hp] at hb
    have := in_third hg hb
    simp only [if_true]
    constructor
    · intro e; omega
    · intro e; cases e
theorem GM.take {G : Nat → Int} {m a b p : Nat} (h : GM G (m ||| prM a b p)) (hf : fitQ3 m a b p = true) (hab : a < b) (hbp : b < p) (hp : p < 15) : GM (putG G (blkN a b p) false) m := by
  intro x y hxy hy
  have hg := blk_good hab hbp hp
  have h2 := putG_cell G hg (p := x) (q := y) (by omega) (by omega) (by omega) false
  simp only [Int.toNat_natCast] at h2
  rw [h2, inB_nat hab hbp hxy hy hp]
  cases hb : (prM a b p).testBit (x * 16 + y)
  · rw [if_neg (by simp), h x y hxy hy, Nat.testBit_or, hb, Bool.or_false]
  · rw [if_pos rfl]
    simp only [Bool.false_eq_true, if_false, true_iff]
    obtain ⟨f1, f2, f3⟩ := fitQ3_iff.1 hf
    rw [prM_bit] at hb
    simp only [Bool.or_eq_true, decide_eq_true_eq] at hb
    rcases hb with (e | e) | e <;> rw [e] <;> assumption
theorem GM.left {G : Nat → Int} {m a b p : Nat} (h : GM G m) (hab : a < b) (hbp : b < p) (hp : p < 15) : leftB G (blkN a b p) = fitQ3 m a b p := by
  rw [Bool.eq_iff_iff, fitQ3_iff]
  unfold leftB blkN
  simp only [Int.toNat_natCast, Bool.and_eq_true, beq_iff_eq]
  rw [h a b hab (by omega), h a p (by omega) hp, h b p hbp hp, and_assoc]
theorem fr_row {v u a : Nat} (h : ∀ j, j < a * 16 → frK v u j = false) : ∀ j, j < a * 16 + (a + 1) → frK v u j = false := by
  intro j hj
  by_cases e : j < a * 16
  · exact h j e
  · rw [← Bool.not_eq_true]; unfold frK
    simp only [Bool.and_eq_true, decide_eq_true_eq]
    omega
theorem fr_next {v u a : Nat} (hv : v ≤ 15) (h : ∀ j, j < a * 16 + v → frK v u j = false) : ∀ j, j < (a + 1) * 16 → frK v u j = false := by
  intro j hj
  by_cases e : j < a * 16 + v
  · exact h j e
  · rw [← Bool.not_eq_true]; unfold frK
    simp only [Bool.and_eq_true, decide_eq_true_eq]
    omega
theorem fr_end {v u : Nat} (hv : v ≤ 15) (h : ∀ j, j < v * 16 → frK v u j = false) : nxt v u = 256 := by
  have h1 := nxt_le v u
  by_cases e : nxt v u = 256
  · exact e
  · obtain ⟨a, b, h2, h3, h4, h5⟩ := nxt_ab hv (by omega : nxt v u < 256)
    have := nxt_fr (v := v) (u := u) (by omega)
    rw [h _ (by omega)] at this; cases this
/-- what next says -/
def nxR (v u : Nat) : Nat × Nat × Bool := if nxt v u < 256 then (nxt v u / 16, nxt v u % 16, true) else (0, 0, false)
/-- the cells of a completer -/
def Cb (w : World) (cb n g : Nat) (u ev : Value) : Prop := Row w cb 116 #[.int .i64 n, .pointer (some ⟨g, 0, none⟩), u, ev]
theorem Cb.c4 {w : World} {cb n g : Nat} {u ev : Value} (h : Cb w cb n g u ev) : w.cell? ⟨cb, 0, none⟩ = some (.int .i64 n) ∧ w.cell? ⟨cb, 1, none⟩ = some (.pointer (some ⟨g, 0, none⟩)) ∧ w.cell? ⟨cb, 2, none⟩ = some u ∧ w.cell? ⟨cb, 3, none⟩ = some ev :=
  ⟨(Row.cell h 0).trans rfl, (Row.cell h 1).trans rfl, (Row.cell h 2).trans rfl, (Row.cell h 3).trans rfl⟩
theorem Cb.lt {w : World} {cb n g : Nat} {u ev : Value} (h : Cb w cb n g u ev) : cb < w.heap.size := Row.lt h
theorem Cb.frozen {w : World} {cb n g : Nat} {u ev : Value} (h : Cb w cb n g u ev) (i : Nat) : w.frozen? ⟨cb, i, none⟩ = false := Row.frozen h i
theorem Cb.below {w w' : World} {cb n g : Nat} {u ev : Value} (h : Cb w cb n g u ev) (hb : Below w.heap.size w w') : Cb w' cb n g u ev := Row.below h hb
theorem Cb.keep {w w' : World} {cb n g : Nat} {u ev : Value} (h : Cb w cb n g u ev) (e : w'.heap[cb]? = w.heap[cb]?) : Cb w' cb n g u ev := e.trans h
theorem Cb.set {w : World} {cb n g : Nat} {u ev : Value} (h : Cb w cb n g u ev) (v : Value) : Cb (w.setCell ⟨cb, 2, none⟩ v) cb n g v ev := Row.set h 2 v
theorem Cb.far {w : World} {cb n g : Nat} {u ev : Value} (h : Cb w cb n g u ev) {p : Addr} (hne : p.block ≠ cb) (v : Value) : Cb (w.setCell p v) cb n g u ev := Row.far h hne v

theorem own_zone' {w w' : World} {base size n : Nat} {t : TypeId} {v : Value} {xs : List Value} (h : w.ownsRow base t size v n xs) (hz : ∀ k, v.ownBlock = some k → k < w.heap.size → w'.heap[k]? = w.heap[k]?) : w'.ownsRow base t size v n xs := by
  refine ⟨h.1, ?_⟩
  rcases h.2 with h' | ⟨g, cap, cur, hv, hg, hR, r⟩
  · exact .inl h'
  · exact .inr ⟨g, cap, cur, hv, hg, (hz g (by rw [hv]; rfl) (Row.lt hR)).trans hR, r⟩

end Go.Proofs.Ytabgmjakkgalgaa

/- The contract of the program's search for the next pair that is left; conditions: stated in it. -/
namespace Go.Proofs.Ytabgmjakkgalgaa
open Go.RowKit
set_option maxHeartbeats 1000000
set_option maxRecDepth 100000
set_option linter.unusedSimpArgs false
set_option linter.unusedVariables false

theorem next_any (cb n g : Nat) (u ev : Value) (G : Nat → Int) (m a0 : Nat) (w : World) (hC : Cb w cb n g u ev) (hG : Gr w g G) (hM : GM G m) (hn : n ≤ 15) (ha : a0 ≤ n) (hlow : ∀ j, j < a0 * 16 → frK n m j = false) :
    Calls Try.prog 119 #[.pointer (some ⟨cb, 0, none⟩), .int .i64 (a0 : Int)] w fun e w' => e = .returned (.tuple #[.int .i64 ((nxR n m).1 : Nat), .int .i64 ((nxR n m).2.1 : Nat), .bool (nxR n m).2.2]) ∧ Below w.heap.size w w' := by
  have HC := Lib.hid hC; have HG := Lib.hid hG; have HM := Lib.hid hM; have HL := Lib.hid hlow
  have HR : Hid (nxR n m = if nxt n m < 256 then (nxt n m / 16, nxt n m % 16, true) else (0, 0, false)) := rfl
  generalize nxR n m = R at *
  clear hC hG hM hlow
  go_enter Try.func119, Try.ntmps119
  go_wp2
  go_loopw [1] (fun i wr => ∃ a : Nat, a ≤ n ∧ i = .int .i64 a ∧ Hid (Below w.heap.size w wr ∧ ∀ j, j < a * 16 → frK n m j = false)) (fun i _ => n - (intOf i).toNat)
  case atStart => exact ⟨a0, ha, rfl, Below.refl _ _, HL.out⟩
  case round =>
    obtain ⟨a, ha, rfl, HD⟩ := hrel
    have hCw := HC.out.below HD.out.1
    obtain ⟨c0, c1, c2, c3⟩ := hCw.c4
    have hlt := hCw.lt
    clear hCw
    by_cases han : a < n
    · go_wp2
      obtain ⟨wo, rfl⟩ : ∃ wo : World, wo = wr := ⟨_, rfl⟩
      clear c0 c1 c2 c3 hlt
      go_loopw [7] (fun i wr => ∃ b : Nat, a + 1 ≤ b ∧ b ≤ n ∧ i = .int .i64 b ∧ Hid (Below w.heap.size w wr ∧ ∀ j, j < a * 16 + b → frK n m j = false)) (fun i _ => n - (intOf i).toNat)
      case atStart => exact ⟨a + 1, by omega, by omega, by go_num, HD.out.1, fr_row HD.out.2⟩
      case round =>
        obtain ⟨b, hb1, hb2, rfl, HE⟩ := hrel
        have hCw := HC.out.below HE.out.1
        obtain ⟨c0, c1, c2, c3⟩ := hCw.c4
        have hlt := hCw.lt
        have hGw := HG.out.below HE.out.1
        have hgl := hGw.lt
        by_cases hbn : b < n
        · have p1 := hGw.cell (i := a * 15 + b) (by omega)
          have i1 : (a : Int) < 15 := by omega
          have i2 : (b : Int) < 15 := by omega
          have i3 : a < 15 := by omega
          have i4 : b < 15 := by omega
          have HI := Lib.hid (HM.out a b (by omega) (by omega))
          generalize G (a * 15 + b) = x at *
          clear hCw hGw
          by_cases hx : x = -1
          · subst hx
            go_wp2
            go_ret3
            have hf : frK n m (a * 16 + b) = true := (fr_iff (by omega)).2 ⟨by omega, by omega, by have := HI.out; simpa using this⟩
            have hnx : nxt n m = a * 16 + b := nxt_is (by omega) hf HE.out.2
            have e1 : (a * 16 + b) / 16 = a := by omega
            have e2 : (a * 16 + b) % 16 = b := by omega
            refine ⟨?_, HE.out.1⟩
            rw [HR.out, hnx, if_pos (by omega), e1, e2]; rfl
          · have hx' : (x == -1) = false := by simpa using hx
            have HX := Lib.hid hx; clear hx
            go_wp2
            go_roundw
            case rel =>
              refine ⟨b + 1, by omega, by omega, by go_num, HE.out.1, fun j hj => ?_⟩
              by_cases e : j < a * 16 + b
              · exact HE.out.2 j e
              · obtain rfl : j = a * 16 + b := by omega
                rw [← Bool.not_eq_true, fr_iff (by omega)]
                intro h; exact HX.out (HI.out.2 h.2.2)
            case measure => simp [intOf]; omega
        · obtain rfl : b = n := by omega
          clear hCw hGw
          go_wp2
          go_roundw
          case rel => exact ⟨a + 1, by omega, by go_num, HE.out.1, fr_next hn HE.out.2⟩
          case measure => simp [intOf]; omega
    · obtain rfl : a = n := by omega
      go_wp2
      go_ret3
      have hnx := fr_end hn HD.out.2
      refine ⟨?_, HD.out.1⟩
      rw [HR.out, hnx, if_neg (by omega)]; rfl

end Go.Proofs.Ytabgmjakkgalgaa

/- A condition on the world that holds behind every operation of a drawn region but one, which waits for all others. Conditions: stated in each. -/
namespace Go.Proofs.Ytabgmjakkgalgaa

section
variable {P : Program} {ops : Array Oper} {Q : Exit → Act → World → Prop} {md : Region.Mode} {S : World → Prop} {N : Nat}

/-- whatever order is picked from here on; S holds behind every operation but number N -/
def AnyBut (P : Program) (md : Region.Mode) (ops : Array Oper) (Q : Exit → Act → World → Prop) (S : World → Prop) (N : Nat) : Nat → Array Bool → Act → World → Prop
  | 0, listed, a, w => Region.ready md ops listed = [] ∧ Q .normal a w
  | fuel + 1, listed, a, w => (Region.ready md ops listed = [] → Q .normal a w) ∧ ∀ i ∈ Region.ready md ops listed, wpOp P ops Q i (fun a' w' => (i ≠ N → S w') ∧ AnyBut P md ops Q S N fuel (listed.setIfInBounds i true) a' w') a w
theorem AnyBut.any : ∀ {fuel : Nat} {listed : Array Bool} {a : Act} {w : World}, AnyBut P md ops Q S N fuel listed a w → wpAny P md ops Q fuel listed a w
  | 0, _, _, _, h => h
  | _ + 1, _, _, _, h => ⟨h.1, fun i hi => wpOp_mono (fun _ _ h' => AnyBut.any h'.2) (h.2 i hi)⟩
theorem AnyBut.begin {id : Nat} {a : Act} {w : World} (hm : P.follows .mixedOrders = true) (h : AnyBut P .any ops Q S N ops.size (Array.replicate ops.size false) a w.drew) : (Code.region id ops true).wp P Q a w := wp_region_any hm h.any
theorem AnyBut.done {listed : Array Bool} {a : Act} {w : World} (hr : Region.ready md ops listed = []) (h : Q .normal a w) : ∀ fuel, AnyBut P md ops Q S N fuel listed a w
  | 0 => ⟨hr, h⟩
  | _ + 1 => ⟨fun _ => h, by rw [hr]; simp⟩
/-- number i may be taken first, if N waits for it -/
theorem AnyBut.first {i : Nat} {oi : Oper} {v : Value} (hi : ops[i]? = some oi) (hiN : i ≠ N) (hN : ∀ oj, ops[N]? = some oj → ∃ e ∈ oj.after, Region.binds md e = true ∧ e.on = i) (hsel : ∀ (j : Nat) (o : Oper) cs b, ops[j]? = some o → o.op ≠ .select cs b)
    (hQ : ∀ c a w, Q (.panic c) (a.put oi.dst v) w → Q (.panic c) a w) : ∀ (fuel : Nat) (listed : Array Bool) (a : Act) (w : World),
      (∀ j oj, ops[j]? = some oj → j ≠ i → listed.getD j true = false → (∀ e ∈ oj.after, Region.binds md e = true → e.on ≠ i) → oi.apart ops oj = true) →
      i ∈ Region.ready md ops listed → YieldsIf P ops S oi v a → S w → AnyBut P md ops Q S N fuel (listed.setIfInBounds i true) (a.put oi.dst v) w → AnyBut P md ops Q S N (fuel + 1) listed a w
  | fuel, listed, a, w, hfree, hr, hy, hS, H => by
    refine ⟨fun h => (by rw [h] at hr; cases hr), fun j hj => ?_⟩
    by_cases hji : j = i
    · subst hji; exact hy.wpOp hi hS ⟨fun _ => hS, H⟩
    · cases fuel with
      | zero =>
        have h0 := ready_mono hj hji
        rw [H.1] at h0; cases h0
      | succ fuel =>
        obtain ⟨hjun, oj, hoj, hall⟩ := mem_ready.1 hj
        have hnot : ∀ e ∈ oj.after, Region.binds md e = true → e.on ≠ i := fun e he hb heq => by
          have h1 := hall e he hb
          have h0 := (mem_ready.1 hr).1
          rw [heq] at h1
          rcases Nat.lt_or_ge i listed.size with h' | h'
          · simp [h'] at h0 h1; rw [h0] at h1; cases h1
          · simp [Array.getElem?_eq_none h'] at h1
        have hjN : j ≠ N := fun e => by
          subst e
          obtain ⟨e, he, hb, hon⟩ := hN oj hoj
          exact hnot e he hb hon
        have h2 := wpOp_putIf hoj (hfree j oj hoj hji hjun hnot) (fun cs b => hsel i oi cs b hi) (fun cs b => hsel j oj cs b hoj) hQ hy (H.2 j (ready_mono hj hji))
        refine wpOp_mono (fun a' w' h3 => ⟨h3.2.1, AnyBut.first hi hiN hN hsel hQ fuel (listed.setIfInBounds j true) a' w' (fun k ok hk hki hun hno => ?_) (ready_mono hr (Ne.symm hji)) h3.1 (h3.2.1 hjN) ?_⟩) h2
        · refine hfree k ok hk hki ?_ hno
          by_cases hjk : j = k
          · subst hjk; exact hjun
          · rw [getD_set_ne true hjk] at hun; exact hun
        · rw [Array.setIfInBounds_comm _ _ hji]; exact h3.2.2
theorem AnyBut.take {i : Nat} {oi on : Oper} {v : Value} {fuel : Nat} {listed : Array Bool} {a : Act} {w : World} (hi : ops[i]? = some oi) (hn : ops[N]? = some on) (hiN : i ≠ N) (hN : (on.after.any fun e => Region.binds md e && e.on == i) = true)
    (hs : Region.noSelect ops = true) (hf : Region.free md ops listed i = true) (hr : (Region.ready md ops listed).contains i = true) (hQ : ∀ c a w, Q (.panic c) (a.put oi.dst v) w → Q (.panic c) a w) (hy : YieldsIf P ops S oi v a) (hS : S w)
    (h : AnyBut P md ops Q S N fuel (listed.setIfInBounds i true) (a.put oi.dst v) w) : AnyBut P md ops Q S N (fuel + 1) listed a w :=
  AnyBut.first hi hiN (fun oj hoj => by
    obtain rfl : on = oj := by rw [hn] at hoj; exact Option.some.inj hoj
    simp only [Array.any_eq_true, Bool.and_eq_true, beq_iff_eq] at hN
    obtain ⟨k, hk, h1, h2⟩ := hN
    exact ⟨_, Array.getElem_mem hk, h1, h2⟩) (Region.noSelect_spec hs) hQ fuel listed a w (Region.free_spec hi hf) (by simpa using hr) hy hS h
/-- each of the operations 'rs' comes up next -/
def AllBut (P : Program) (md : Region.Mode) (ops : Array Oper) (Q : Exit → Act → World → Prop) (S : World → Prop) (N : Nat) (fuel : Nat) (listed : Array Bool) (a : Act) (w : World) (rs : List Nat) : Prop :=
  ∀ i ∈ rs, wpOp P ops Q i (fun a' w' => (i ≠ N → S w') ∧ AnyBut P md ops Q S N fuel (listed.setIfInBounds i true) a' w') a w
theorem AllBut.nil {fuel : Nat} {listed : Array Bool} {a : Act} {w : World} : AllBut P md ops Q S N fuel listed a w [] := fun _ h => by cases h
theorem AllBut.cons {fuel : Nat} {listed : Array Bool} {a : Act} {w : World} {i : Nat} {o : Oper} {rs : List Nat} (ho : ops[i]? = some o)
    (h : ∀ K' : Act → World → Prop, Shut (∀ a w, (i ≠ N → S w) → (AnyBut P md ops Q S N fuel (listed.setIfInBounds i true) a w) → K' a w) → if Region.wanted o (yielded ops a.tmps) = true then Oper.wp P o a w K' Q else K' (a.put o.dst undef) w)
    (hs : AllBut P md ops Q S N fuel listed a w rs) : AllBut P md ops Q S N fuel listed a w (i :: rs) := fun j hj => by
  rcases List.mem_cons.1 hj with rfl | hj
  · exact wpOp_step ho (fun K' hK => h K' (fun a w hS hW => hK a w ⟨hS, hW⟩))
  · exact hs j hj
theorem AnyBut.ready {rs : List Nat} {fuel : Nat} {listed : Array Bool} {a : Act} {w : World} (hr : Region.ready md ops listed = rs) (hne : rs ≠ []) (h : AllBut P md ops Q S N fuel listed a w rs) : AnyBut P md ops Q S N (fuel + 1) listed a w :=
  ⟨fun h0 => absurd (hr ▸ h0) hne, hr ▸ h⟩
end

end Go.Proofs.Ytabgmjakkgalgaa
