/- Lists of lists in memory whose lists are rows of their own, so that each can be written and appended to; conditions: none. -/
import Derived.Test.YtpdkkbimhhhjmaaM5
import Derived.Laws.OwnMore
import Derived.Test.YtpdkkbimhhhjmaaP9
namespace Go.Proofs.Ytpdkkbimhhhjmaa
open Go.RowKit
set_option linter.unusedSimpArgs false
set_option linter.unusedVariables false

def updA {α : Type} (f : Nat → α) (k : Nat) (x : α) : Nat → α := fun i => if i = k then x else f i
theorem updA_same {α : Type} (f : Nat → α) (k : Nat) (x : α) : updA f k x k = x := by simp [updA]
theorem updA_ne {α : Type} (f : Nat → α) {k j : Nat} (x : α) (h : j ≠ k) : updA f k x j = f j := by simp [updA, h]
/-- a row of numbers of its own -/
def Ro (w : World) (base : Nat) (h : Value) (xs : List Int) : Prop := w.ownsRow base 2 1 h xs.length (xs.map (Value.int .i64))
theorem Ro.below {w w' : World} {base : Nat} {h : Value} {xs : List Int} (hR : Ro w base h xs) (hb : Below w.heap.size w w') : Ro w' base h xs := own_below hR hb
/-- n rows of their own, all in different blocks, and none in the block of u -/
def Fam (w : World) (base : Nat) (u : Value) (hs : Nat → Value) (xs : Nat → List Int) (n : Nat) : Prop :=
  (∀ k, k < n → Ro w base (hs k) (xs k)) ∧ (∀ k, k < n → ∀ b, (hs k).ownBlock = some b → u.ownBlock ≠ some b) ∧ (∀ j k, j < n → k < n → j ≠ k → ∀ b, (hs j).ownBlock = some b → (hs k).ownBlock ≠ some b)
/-- u is a row of its own of the first m headers -/
def Hd (w : World) (base : Nat) (u : Value) (hs : Nat → Value) (m : Nat) : Prop := w.ownsRow base 34 1 u m ((List.range m).map hs)
def LLh (w : World) (base : Nat) (u : Value) (hs : Nat → Value) (xs : Nat → List Int) (m n : Nat) : Prop := Hd w base u hs m ∧ Fam w base u hs xs n
theorem LLh.below {w w' : World} {base : Nat} {u : Value} {hs : Nat → Value} {xs : Nat → List Int} {m n : Nat} (h : LLh w base u hs xs m n) (hb : Below w.heap.size w w') : LLh w' base u hs xs m n :=
  ⟨own_below h.1 hb, fun k hk => (h.2.1 k hk).below hb, h.2.2.1, h.2.2.2⟩
theorem LLh.base {w : World} {base base' : Nat} {u : Value} {hs : Nat → Value} {xs : Nat → List Int} {m n : Nat} (h : LLh w base u hs xs m n) (hb : base' ≤ base) : LLh w base' u hs xs m n :=
  ⟨own_base h.1 hb, fun k hk => own_base (h.2.1 k hk) hb, h.2.2.1, h.2.2.2⟩
/-- a row made since W is one more -/
theorem LLh.more {W w : World} {base : Nat} {u h : Value} {hs : Nat → Value} {xs : Nat → List Int} {m n : Nat} {row : List Int} (hL : LLh W base u hs xs m n) (hb : Below W.heap.size W w) (hmn : m ≤ n) (hB : base ≤ W.heap.size) (hR : Ro w W.heap.size h row) :
    LLh w base u (updA hs n h) (updA xs n row) m (n + 1) := by
  have hL' := hL.below hb
  have fresh : ∀ b, h.ownBlock = some b → W.heap.size ≤ b := fun b e => (hR.lt b e).1
  have old : ∀ k, k < n → ∀ b, (hs k).ownBlock = some b → b < W.heap.size := fun k hk b e => ((hL.2.1 k hk).lt b e).2
  have oldu : ∀ b, u.ownBlock = some b → b < W.heap.size := fun b e => (hL.1.lt b e).2
  refine ⟨?_, ?_, ?_, ?_⟩
  · have : (List.range m).map (updA hs n h) = (List.range m).map hs := List.map_congr_left fun i hi => updA_ne hs h (by have := List.mem_range.1 hi; omega)
    unfold Hd; rw [this]; exact hL'.1
  · intro k hk
    by_cases e : k = n
    · subst e; rw [updA_same, updA_same]; exact own_base hR hB
    · rw [updA_ne _ _ e, updA_ne _ _ e]; exact hL'.2.1 k (by omega)
  · intro k hk b hb2
    by_cases e : k = n
    · subst e; rw [updA_same] at hb2; intro e2; have := fresh b hb2; have := oldu b e2; omega
    · rw [updA_ne _ _ e] at hb2; exact hL'.2.2.1 k (by omega) b hb2
  · intro j k hj hk hne b hb2
    by_cases e : j = n
    · subst e
      rw [updA_same] at hb2
      rw [updA_ne _ _ (Ne.symm hne)]
      intro e2; have := fresh b hb2; have := old k (by omega) b e2; omega
    · rw [updA_ne _ _ e] at hb2
      by_cases e3 : k = n
      · subst e3; rw [updA_same]; intro e2; have := fresh b e2; have := old j (by omega) b hb2; omega
      · rw [updA_ne _ _ e3]; exact hL'.2.2.2 j k (by omega) (by omega) hne b hb2
/-- a row was written or appended to, its header is not in u (yet) -/
theorem LLh.grow {w w' : World} {base : Nat} {u h' : Value} {hs : Nat → Value} {xs : Nat → List Int} {m n k : Nat} {row : List Int} (hL : LLh w base u hs xs m n) (hk : k < n) (hg : w.grownBy w' (hs k).ownBlock) (hR : Ro w' base h' row)
    (hat : h'.ownBlock = (hs k).ownBlock ∨ ∃ b, h'.ownBlock = some b ∧ w.heap.size ≤ b) :
    Hd w' base u hs m ∧ Fam w' base u (updA hs k h') (updA xs k row) n := by
  have old : ∀ j, j < n → ∀ b, (hs j).ownBlock = some b → b < w.heap.size := fun j hj b e => ((hL.2.1 j hj).lt b e).2
  have oldu : ∀ b, u.ownBlock = some b → b < w.heap.size := fun b e => (hL.1.lt b e).2
  have nu : ∀ b, h'.ownBlock = some b → u.ownBlock ≠ some b := by
    intro b hb e
    rcases hat with h | ⟨c, h, hc⟩
    · exact hL.2.2.1 k hk b (h ▸ hb) e
    · rw [h] at hb; simp only [Option.some.injEq] at hb; subst hb; have := oldu _ e; omega
  have nh : ∀ j, j < n → j ≠ k → ∀ b, h'.ownBlock = some b → (hs j).ownBlock ≠ some b := by
    intro j hj hjk b hb e
    rcases hat with h | ⟨c, h, hc⟩
    · exact hL.2.2.2 k j hk hj (Ne.symm hjk) b (h ▸ hb) e
    · rw [h] at hb; simp only [Option.some.injEq] at hb; subst hb; have := old j hj _ e; omega
  refine ⟨World.ownsRow.kept hL.1 hg ?_, ?_, ?_, ?_⟩
  · cases e : u.ownBlock with
    | none => exact .inl rfl
    | some b => right; intro e2; exact hL.2.2.1 k hk b e2.symm e
  · intro j hj
    by_cases e : j = k
    · subst e; rw [updA_same, updA_same]; exact hR
    · rw [updA_ne _ _ e, updA_ne _ _ e]
      refine World.ownsRow.kept (hL.2.1 j hj) hg ?_
      cases e2 : (hs j).ownBlock with
      | none => exact .inl rfl
      | some b => right; intro e3; exact hL.2.2.2 j k hj hk e b e2 e3.symm
  · intro j hj b hb
    by_cases e : j = k
    · subst e; rw [updA_same] at hb; exact nu b hb
    · rw [updA_ne _ _ e] at hb; exact hL.2.2.1 j hj b hb
  · intro i j hi hj hij b hb
    by_cases e : i = k
    · subst e; rw [updA_same] at hb; rw [updA_ne _ _ (Ne.symm hij)]; exact nh j hj (Ne.symm hij) b hb
    · rw [updA_ne _ _ e] at hb
      by_cases e2 : j = k
      · subst e2; rw [updA_same]; intro e3; exact nh i hi e b e3 hb
      · rw [updA_ne _ _ e2]; exact hL.2.2.2 i j hi hj hij b hb
/-- .. and its header is none of those in u -/
theorem LLh.grow_out {w w' : World} {base : Nat} {u h' : Value} {hs : Nat → Value} {xs : Nat → List Int} {m n k : Nat} {row : List Int} (hL : LLh w base u hs xs m n) (hk : k < n) (hm : m ≤ k) (hg : w.grownBy w' (hs k).ownBlock) (hR : Ro w' base h' row)
    (hat : h'.ownBlock = (hs k).ownBlock ∨ ∃ b, h'.ownBlock = some b ∧ w.heap.size ≤ b) : LLh w' base u (updA hs k h') (updA xs k row) m n := by
  obtain ⟨h1, h2⟩ := hL.grow hk hg hR hat
  refine ⟨?_, h2⟩
  have : (List.range m).map (updA hs k h') = (List.range m).map hs := List.map_congr_left fun i hi => updA_ne hs h' (by have := List.mem_range.1 hi; omega)
  unfold Hd; rw [this]; exact h1
theorem range_set {α : Type} (f : Nat → α) (m k : Nat) (x : α) : ((List.range m).map f).set k x = (List.range m).map (updA f k x) := by
  apply List.ext_getElem?
  intro i
  by_cases hi : i < m
  · by_cases e : i = k
    · subst e; simp [updA, hi]
    · rw [List.getElem?_set_ne (Ne.symm e)]; simp [updA, hi, e]
  · simp [hi, List.getElem?_eq_none]
/-- .. and its new header is written into u -/
theorem LLh.put {w w' : World} {base gu c : Nat} {h' : Value} {hs : Nat → Value} {xs : Nat → List Int} {m n k : Nat} {row : List Int} (hL : LLh w base (.slice (some ⟨gu, 0, none⟩) m c) hs xs m n) (hk : k < m) (hmn : m ≤ n) (hg : w.grownBy w' (hs k).ownBlock) (hR : Ro w' base h' row)
    (hat : h'.ownBlock = (hs k).ownBlock ∨ ∃ b, h'.ownBlock = some b ∧ w.heap.size ≤ b) : LLh (w'.setCell ⟨gu, k, none⟩ h') base (.slice (some ⟨gu, 0, none⟩) m c) (updA hs k h') (updA xs k row) m n := by
  obtain ⟨h1, h2⟩ := hL.grow (by omega) hg hR hat
  obtain ⟨h3, h4⟩ := World.ownsRow.stored h1 k h'
  refine ⟨by unfold Hd; rw [← range_set]; exact h3, fun j hj => ?_, h2.2.1, h2.2.2⟩
  refine World.ownsRow.kept (h2.1 j hj) h4 ?_
  cases e : (updA hs k h' j).ownBlock with
  | none => exact .inl rfl
  | some b => right; intro e2; exact h2.2.1 j hj b e (by simpa [Value.ownBlock] using e2.symm)
/-- the next header was appended -/
theorem LLh.push {w w1 w2 : World} {base : Nat} {u v2 : Value} {hs : Nat → Value} {xs : Nat → List Int} {m n : Nat} (hL : LLh w base u hs xs m n) (hmn : m < n) (hb : Below w.heap.size w w1) (hg : w1.grownBy w2 u.ownBlock)
    (ho : w2.ownsRow base 34 1 v2 (m + 1) ((List.range m).map hs ++ [hs m])) (hat : v2.ownBlock = u.ownBlock ∨ v2.ownBlock = some w1.heap.size) : LLh w2 base v2 hs xs (m + 1) n := by
  have hL1 := hL.below hb
  refine ⟨by unfold Hd; rw [List.range_succ, List.map_append]; exact ho, fun k hk => ?_, fun k hk b hb2 e => ?_, hL.2.2.2⟩
  · refine World.ownsRow.kept (hL1.2.1 k hk) hg ?_
    cases e : (hs k).ownBlock with
    | none => exact .inl rfl
    | some b => right; intro e2; exact hL.2.2.1 k hk b e e2.symm
  · rcases hat with h | h
    · exact hL.2.2.1 k hk b hb2 (h ▸ e)
    · rw [h] at e; simp only [Option.some.injEq] at e; subst e
      have := ((hL.2.1 k hk).lt _ hb2).2; have := hb.size; omega
/-- a header that is read -/
theorem LLh.at_ {w : World} {base gu c : Nat} {hs : Nat → Value} {xs : Nat → List Int} {m n k : Nat} (hL : LLh w base (.slice (some ⟨gu, 0, none⟩) m c) hs xs m n) (hk : k < m) :
    w.cell? ⟨gu, k, none⟩ = some (hs k) ∧ gu < w.heap.size ∧ base ≤ gu := by
  have h := World.ownsRow.cells hL.1 (g := gu) (by simp [Value.ownBlock]) k (hs k) (by simp [hk])
  have hadd : (⟨gu, 0, none⟩ : Addr).add k = ⟨gu, k, none⟩ := by unfold Addr.add; split <;> simp_all
  rw [hadd] at h
  have := World.ownsRow.lt hL.1 gu (by simp [Value.ownBlock])
  exact ⟨h, this.2, this.1⟩
theorem LLh.frozen {w : World} {base gu c : Nat} {hs : Nat → Value} {xs : Nat → List Int} {m n : Nat} (hL : LLh w base (.slice (some ⟨gu, 0, none⟩) m c) hs xs m n) (k : Nat) : w.frozen? ⟨gu, k, none⟩ = false := World.ownsRow.frozenAt hL.1 k
theorem Ro.il {w : World} {base : Nat} {h : Value} {xs : List Int} (hR : Ro w base h xs) : ∃ B d, h = .slice B xs.length d ∧ Il w B xs ∧ (∀ b, B.map Addr.block = some b → b < w.heap.size ∧ base ≤ b ∧ h.ownBlock = some b) := by
  rcases hR.2 with ⟨rfl, h0⟩ | ⟨g, cap, cur, rfl, hg, hrow, hnc, _, hcs, htk⟩
  · have : xs = [] := List.eq_nil_of_length_eq_zero h0
    subst this
    exact ⟨none, 0, rfl, .inl rfl, fun b e => by simp at e⟩
  · refine ⟨_, _, rfl, .inr ⟨g, 0, rfl, Row.lt hrow, fun k hk => ?_⟩, fun b e => ?_⟩
    · rw [Nat.zero_add, Row.cell hrow]
      have h3 : (xs.map (Value.int .i64))[k]? = some (.int .i64 (nthI xs k)) := by simp [nthI, hk]
      rw [← htk, List.getElem?_take_of_lt (by omega), Array.getElem?_toList] at h3
      exact h3
    · simp only [Option.map_some, Option.some.injEq] at e
      subst e
      exact ⟨Row.lt hrow, hg, rfl⟩
/-- all headers are there: to read -/
theorem LLh.llr {w : World} {base : Nat} {u : Value} {hs : Nat → Value} {xs : Nat → List Int} {m : Nat} (hL : LLh w base u hs xs m m) : LLr w base u ((List.range m).map xs) := by
  have h1 := hL.1
  unfold Hd at h1
  refine ⟨(List.range m).map hs, by simpa using h1, fun k hk => ?_⟩
  have hkm : k < m := by simpa using hk
  obtain ⟨B, d, h1, h2, h3⟩ := (hL.2.1 k hkm).il
  have e : nthLL ((List.range m).map xs) k = xs k := by simp [nthLL, hkm]
  rw [e]
  refine ⟨B, d, by simp [hkm, h1], h2, fun b e => ⟨(h3 b e).1, hL.2.2.1 k hkm b (h3 b e).2.2, (h3 b e).2.1⟩⟩

theorem LLh.congr {w : World} {base : Nat} {u : Value} {hs : Nat → Value} {xs ys : Nat → List Int} {m n : Nat} (h : LLh w base u hs xs m n) (e : ∀ k, k < n → xs k = ys k) : LLh w base u hs ys m n :=
  ⟨h.1, fun k hk => e k hk ▸ h.2.1 k hk, h.2.2.1, h.2.2.2⟩
/-- block g holds the headers of m rows of m numbers each: op's table -/
def Tb (w : World) (g : Nat) (op : Int → Int → Int) (m : Nat) : Prop :=
  g < w.heap.size ∧ ∀ a : Nat, a < m → ∃ p o d, p < w.heap.size ∧ w.cell? ⟨g, a, none⟩ = some (.slice (some ⟨p, o, none⟩) m d) ∧ ∀ b : Nat, b < m → w.cell? ⟨p, o + b, none⟩ = some (.int .i64 (op a b))
theorem Tb.below {w w' : World} {g : Nat} {op : Int → Int → Int} {m : Nat} (h : Tb w g op m) (hb : Below w.heap.size w w') : Tb w' g op m := by
  refine ⟨Nat.lt_of_lt_of_le h.1 hb.size, fun a ha => ?_⟩
  obtain ⟨p, o, d, h1, h2, h3⟩ := h.2 a ha
  exact ⟨p, o, d, Nat.lt_of_lt_of_le h1 hb.size, (hb.cell (p := ⟨g, a, none⟩) h.1).trans h2, fun b hb2 => (hb.cell (p := ⟨p, o + b, none⟩) h1).trans (h3 b hb2)⟩
theorem LLh.form {w : World} {base : Nat} {u : Value} {hs : Nat → Value} {xs : Nat → List Int} {m n : Nat} (h : LLh w base u hs xs m n) (hm : 0 < m) : ∃ g c, u = .slice (some ⟨g, 0, none⟩) m c ∧ base ≤ g ∧ g < w.heap.size := by
  rcases h.1.2 with ⟨_, h0⟩ | ⟨g, cap, cur, hv, hb, hg, _⟩
  · omega
  · exact ⟨g, cap, hv, hb, Row.lt hg⟩
theorem Ro.form {w : World} {base : Nat} {u : Value} {xs : List Int} (h : Ro w base u xs) (hm : 0 < xs.length) : ∃ g c, u = .slice (some ⟨g, 0, none⟩) xs.length c ∧ base ≤ g ∧ g < w.heap.size ∧ ∀ k, k < xs.length → w.cell? ⟨g, k, none⟩ = some (.int .i64 (nthI xs k)) := by
  rcases h.2 with ⟨_, h0⟩ | ⟨g, cap, cur, hv, hb, hg, hnc, _, hcs, htk⟩
  · omega
  · refine ⟨g, cap, hv, hb, Row.lt hg, fun k hk => ?_⟩
    rw [Row.cell hg]
    have h3 : (xs.map (Value.int .i64))[k]? = some (.int .i64 (nthI xs k)) := by simp [nthI, hk]
    rw [← htk, List.getElem?_take_of_lt (by omega), Array.getElem?_toList] at h3
    exact h3
theorem LLh.tb {w : World} {base g c m : Nat} {hs : Nat → Value} {op : Int → Int → Int} (h : LLh w base (.slice (some ⟨g, 0, none⟩) m c) hs (tabR op m) m m) (hm : 0 < m) : Tb w g op m := by
  refine ⟨(World.ownsRow.lt h.1 g (by simp [Value.ownBlock])).2, fun a ha => ?_⟩
  obtain ⟨h1, _, _⟩ := h.at_ ha
  obtain ⟨p, d, h2, _, h3, h4⟩ := (h.2.1 a ha).form (by rw [tabR_len]; omega)
  rw [tabR_len] at h2 h4
  refine ⟨p, 0, d, h3, by rw [h1, h2], fun b hb => ?_⟩
  rw [Nat.zero_add, h4 b hb, tabR_nth op hb]

end Go.Proofs.Ytpdkkbimhhhjmaa
