/- Plain laws and contracts, part 2; conditions: stated in each. -/
import Derived.Laws.OwnMore
import Derived.Deep.RegionHeld3
import Derived.Deep.AppendLies
import Derived.Laws.Cover3
import Derived.ChangeKeysEq
import Derived.Deep.RegionLaw
import Derived.Test.YtgbkonnmjmlalaaB1
set_option linter.unusedSimpArgs false
set_option linter.unusedVariables false
/- Lists of lists in memory whose lists are rows of their own, so that each can be written and appended to; conditions: none. -/
namespace Go.Proofs.Ytgbkonnmjmlalaa
open Go.RowKit
set_option linter.unusedSimpArgs false
set_option linter.unusedVariables false

def updA {α : Type} (f : Nat → α) (k : Nat) (x : α) : Nat → α := fun i => if i = k then x else f i
theorem updA_same {α : Type} (f : Nat → α) (k : Nat) (x : α) : updA f k x k = x := by simp [updA]
theorem updA_ne {α : Type} (f : Nat → α) {k j : Nat} (x : α) (h : j ≠ k) : updA f k x j = f j := by simp [updA, h]
/-- a row of numbers of its own -/
def Ro (w : World) (base : Nat) (h : Value) (xs : List Int) : Prop := w.ownsRow base 2 1 h xs.length (xs.map (Value.int .i64))
theorem Ro.below {w w' : World} {base : Nat} {h : Value} {xs : List Int} (hR : Ro w base h xs) (hb : Below w.heap.size w w') : Ro w' base h xs := own_below hR hb
/-- n rows of their own, all in different blocks, and none in the block of u -/
def Fam (w : World) (base : Nat) (u : Value) (hs : Nat → Value) (xs : Nat → List Int) (n : Nat) : Prop :=
  (∀ k, k < n → Ro w base (hs k) (xs k)) ∧ (∀ k, k < n → ∀ b, (hs k).ownBlock = some b → u.ownBlock ≠ some b) ∧ (∀ j k, j < n → k < n → j ≠ k → ∀ b, (hs j).ownBlock = some b → (hs k).ownBlock ≠ some b)
/-- u is a row of its own of the first m headers -/
def Hd (w : World) (base : Nat) (u : Value) (hs : Nat → Value) (m : Nat) : Prop := w.ownsRow base 39 1 u m ((List.range m).map hs)
def LLh (w : World) (base : Nat) (u : Value) (hs : Nat → Value) (xs : Nat → List Int) (m n : Nat) : Prop := Hd w base u hs m ∧ Fam w base u hs xs n
theorem LLh.below {w w' : World} {base : Nat} {u : Value} {hs : Nat → Value} {xs : Nat → List Int} {m n : Nat} (h : LLh w base u hs xs m n) (hb : Below w.heap.size w w') : LLh w' base u hs xs m n :=
  ⟨own_below h.1 hb, fun k hk => (h.2.1 k hk).below hb, h.2.2.1, h.2.2.2⟩
theorem LLh.base {w : World} {base base' : Nat} {u : Value} {hs : Nat → Value} {xs : Nat → List Int} {m n : Nat} (h : LLh w base u hs xs m n) (hb : base' ≤ base) : LLh w base' u hs xs m n :=
  ⟨own_base h.1 hb, fun k hk => own_base (h.2.1 k hk) hb, h.2.2.1, h.2.2.2⟩
/-- a row made since W is one more -/
theorem LLh.more {W w : World} {base : Nat} {u h : Value} {hs : Nat → Value} {xs : Nat → List Int} {m n : Nat} {row : List Int} (hL : LLh W base u hs xs m n) (hb : Below W.heap.size W w) (hmn : m ≤ n) (hB : base ≤ W.heap.size) (hR : Ro w W.heap.size h row) :
    LLh w base u (updA hs n h) (updA xs n row) m (n + 1) := by
  have hL' := hL.below hb
  have fresh : ∀ b, h.ownBlock = some b → W.heap.size ≤ b := fun b e => (hR.lt b e).1
  have old : ∀ k, k < n → ∀ b, (hs k).ownBlock = some b → b < W.heap.size := fun k hk b e => ((hL.2.1 k hk).lt b e).2
  have oldu : ∀ b, u.ownBlock = some b → b < W.heap.size := fun b e => (hL.1.lt b e).2
  refine ⟨?_, ?_, ?_, ?_⟩
  · have : (List.range m).map (updA hs n h) = (List.range m).map hs := List.map_congr_left fun i hi => updA_ne hs h (by have := List.mem_range.1 hi; omega)
    unfold Hd; rw [this]; exact hL'.1
  · intro k hk
    by_cases e : k = n
    · subst e; rw [updA_same, updA_same]; exact own_base hR hB
    · rw [updA_ne _ _ e, updA_ne _ _ e]; exact hL'.2.1 k (by omega)
  · intro k hk b hb2
    by_cases e : k = n
    · subst e; rw [updA_same] at hb2; intro e2; have := fresh b hb2; have := oldu b e2; omega
    · rw [updA_ne _ _ e] at hb2; exact hL'.2.2.1 k (by omega) b hb2
  · intro j k hj hk hne b hb2
    by_cases e : j = n
    · subst e
      rw [updA_same] at hb2
      rw [updA_ne _ _ (Ne.symm hne)]
      intro e2; have := fresh b hb2; have := old k (by omega) b e2; omega
    · rw [updA_ne _ _ e] at hb2
      by_cases e3 : k = n
      · subst e3; rw [updA_same]; intro e2; have := fresh b e2; have := old j (by omega) b hb2; omega
      · rw [updA_ne _ _ e3]; exact hL'.2.2.2 j k (by omega) (by omega) hne b hb2
/-- a row was written or appended to, its header is not in u (yet) -/
theorem LLh.grow {w w' : World} {base : Nat} {u h' : Value} {hs : Nat → Value} {xs : Nat → List Int} {m n k : Nat} {row : List Int} (hL : LLh w base u hs xs m n) (hk : k < n) (hg : w.grownBy w' (hs k).ownBlock) (hR : Ro w' base h' row)
    (hat : h'.ownBlock = (hs k).ownBlock ∨ ∃ b, h'.ownBlock = some b ∧ w.heap.size ≤ b) :
    Hd w' base u hs m ∧ Fam w' base u (updA hs k h') (updA xs k row) n := by
  have old : ∀ j, j < n → ∀ b, (hs j).ownBlock = some b → b < w.heap.size := fun j hj b e => ((hL.2.1 j hj).lt b e).2
  have oldu : ∀ b, u.ownBlock = some b → b < w.heap.size := fun b e => (hL.1.lt b e).2
  have nu : ∀ b, h'.ownBlock = some b → u.ownBlock ≠ some b := by
    intro b hb e
    rcases hat with h | ⟨c, h, hc⟩
    · exact hL.2.2.1 k hk b (h ▸ hb) e
    · rw [h] at hb; simp only [Option.some.injEq] at hb; subst hb; have := oldu _ e; omega
  have nh : ∀ j, j < n → j ≠ k → ∀ b, h'.ownBlock = some b → (hs j).ownBlock ≠ some b := by
    intro j hj hjk b hb e
    rcases hat with h | ⟨c, h, hc⟩
    · exact hL.2.2.2 k j hk hj (Ne.symm hjk) b (h ▸ hb) e
    · rw [h] at hb; simp only [Option.some.injEq] at hb; subst hb; have := old j hj _ e; omega
  refine ⟨World.ownsRow.kept hL.1 hg ?_, ?_, ?_, ?_⟩
  · cases e : u.ownBlock with
    | none => exact .inl rfl
    | some b => right; intro e2; exact hL.2.2.1 k hk b e2.symm e
  · intro j hj
    by_cases e : j = k
    · subst e; rw [updA_same, updA_same]; exact hR
    · rw [updA_ne _ _ e, updA_ne _ _ e]
      refine World.ownsRow.kept (hL.2.1 j hj) hg ?_
      cases e2 : (hs j).ownBlock with
      | none => exact .inl rfl
      | some b => right; intro e3; exact hL.2.2.2 j k hj hk e b e2 e3.symm
  · intro j hj b hb
    by_cases e : j = k
    · subst e; rw [updA_same] at hb; exact nu b hb
    · rw [updA_ne _ _ e] at hb; exact hL.2.2.1 j hj b hb
  · intro i j hi hj hij b hb
    by_cases e : i = k
    · subst e; rw [updA_same] at hb; rw [updA_ne _ _ (Ne.symm hij)]; exact nh j hj (Ne.symm hij) b hb
    · rw [updA_ne _ _ e] at hb
      by_cases e2 : j = k
      · subst e2; rw [updA_same]; intro e3; exact nh i hi e b e3 hb
      · rw [updA_ne _ _ e2]; exact hL.2.2.2 i j hi hj hij b hb
/-- .. and its header is none of those in u -/
theorem LLh.grow_out {w w' : World} {base : Nat} {u h' : Value} {hs : Nat → Value} {xs : Nat → List Int} {m n k : Nat} {row : List Int} (hL : LLh w base u hs xs m n) (hk : k < n) (hm : m ≤ k) (hg : w.grownBy w' (hs k).ownBlock) (hR : Ro w' base h' row)
    (hat : h'.ownBlock = (hs k).ownBlock ∨ ∃ b, h'.ownBlock = some b ∧ w.heap.size ≤ b) : LLh w' base u (updA hs k h') (updA xs k row) m n := by
  obtain ⟨h1, h2⟩ := hL.grow hk hg hR hat
  refine ⟨?_, h2⟩
  have : (List.range m).map (updA hs k h') = (List.range m).map hs := List.map_congr_left fun i hi => updA_ne hs h' (by have := List.mem_range.1 hi; omega)
  unfold Hd; rw [this]; exact h1
theorem range_set {α : Type} (f : Nat → α) (m k : Nat) (x : α) : ((List.range m).map f).set k x = (List.range m).map (updA f k x) := by
  apply List.ext_getElem?
  intro i
  by_cases hi : i < m
  · by_cases e : i = k
    · subst e; simp [updA, hi]
    · rw [List.getElem?_set_ne (Ne.symm e)]; simp [updA, hi, e]
  · simp [hi, List.getElem?_eq_none]
/-- .. and its new header is written into u -/
theorem LLh.put {w w' : World} {base gu c : Nat} {h' : Value} {hs : Nat → Value} {xs : Nat → List Int} {m n k : Nat} {row : List Int} (hL : LLh w base (.slice (some ⟨gu, 0, none⟩) m c) hs xs m n) (hk : k < m) (hmn : m ≤ n) (hg : w.grownBy w' (hs k).ownBlock) (hR : Ro w' base h' row)
    (hat : h'.ownBlock = (hs k).ownBlock ∨ ∃ b, h'.ownBlock = some b ∧ w.heap.size ≤ b) : LLh (w'.setCell ⟨gu, k, none⟩ h') base (.slice (some ⟨gu, 0, none⟩) m c) (updA hs k h') (updA xs k row) m n := by
  obtain ⟨h1, h2⟩ := hL.grow (by omega) hg hR hat
  obtain ⟨h3, h4⟩ := World.ownsRow.stored h1 k h'
  refine ⟨by unfold Hd; rw [← range_set]; exact h3, fun j hj => ?_, h2.2.1, h2.2.2⟩
  refine World.ownsRow.kept (h2.1 j hj) h4 ?_
  cases e : (updA hs k h' j).ownBlock with
  | none => exact .inl rfl
  | some b => right; intro e2; exact h2.2.1 j hj b e (by simpa [Value.ownBlock] using e2.symm)
/-- the next header was appended -/
theorem LLh.push {w w1 w2 : World} {base : Nat} {u v2 : Value} {hs : Nat → Value} {xs : Nat → List Int} {m n : Nat} (hL : LLh w base u hs xs m n) (hmn : m < n) (hb : Below w.heap.size w w1) (hg : w1.grownBy w2 u.ownBlock)
    (ho : w2.ownsRow base 39 1 v2 (m + 1) ((List.range m).map hs ++ [hs m])) (hat : v2.ownBlock = u.ownBlock ∨ v2.ownBlock = some w1.heap.size) : LLh w2 base v2 hs xs (m + 1) n := by
  have hL1 := hL.below hb
  refine ⟨by unfold Hd; rw [List.range_succ, List.map_append]; exact ho, fun k hk => ?_, fun k hk b hb2 e => ?_, hL.2.2.2⟩
  · refine World.ownsRow.kept (hL1.2.1 k hk) hg ?_
    cases e : (hs k).ownBlock with
    | none => exact .inl rfl
    | some b => right; intro e2; exact hL.2.2.1 k hk b e e2.symm
  · rcases hat with h | h
    · exact hL.2.2.1 k hk b hb2 (h ▸ e)
    · rw [h] at e; simp only [Option.some.injEq] at e; subst e
      have := ((hL.2.1 k hk).lt _ hb2).2; have := hb.size; omega
/-- a header that is read -/
theorem LLh.at_ {w : World} {base gu c : Nat} {hs : Nat → Value} {xs : Nat → List Int} {m n k : Nat} (hL : LLh w base (.slice (some ⟨gu, 0, none⟩) m c) hs xs m n) (hk : k < m) :
    w.cell? ⟨gu, k, none⟩ = some (hs k) ∧ gu < w.heap.size ∧ base ≤ gu := by
  have h := World.ownsRow.cells hL.1 (g := gu) (by simp [Value.ownBlock]) k (hs k) (by simp [hk])
  have hadd : (⟨gu, 0, none⟩ : Addr).add k = ⟨gu, k, none⟩ := by unfold Addr.add; split <;> simp_all
  rw [hadd] at h
  have := World.ownsRow.lt hL.1 gu (by simp [Value.ownBlock])
  exact ⟨h, this.2, this.1⟩
theorem LLh.frozen {w : World} {base gu c : Nat} {hs : Nat → Value} {xs : Nat → List Int} {m n : Nat} (hL : LLh w base (.slice (some ⟨gu, 0, none⟩) m c) hs xs m n) (k : Nat) : w.frozen? ⟨gu, k, none⟩ = false := World.ownsRow.frozenAt hL.1 k
theorem Ro.il {w : World} {base : Nat} {h : Value} {xs : List Int} (hR : Ro w base h xs) : ∃ B d, h = .slice B xs.length d ∧ Il w B xs ∧ (∀ b, B.map Addr.block = some b → b < w.heap.size ∧ base ≤ b ∧ h.ownBlock = some b) := by
  rcases hR.2 with ⟨rfl, h0⟩ | ⟨g, cap, cur, rfl, hg, hrow, hnc, _, hcs, htk⟩
  · have : xs = [] := List.eq_nil_of_length_eq_zero h0
    subst this
    exact ⟨none, 0, rfl, .inl rfl, fun b e => by simp at e⟩
  · refine ⟨_, _, rfl, .inr ⟨g, 0, rfl, Row.lt hrow, fun k hk => ?_⟩, fun b e => ?_⟩
    · rw [Nat.zero_add, Row.cell hrow]
      have h3 : (xs.map (Value.int .i64))[k]? = some (.int .i64 (nthI xs k)) := by simp [nthI, hk]
      rw [← htk, List.getElem?_take_of_lt (by omega), Array.getElem?_toList] at h3
      exact h3
    · simp only [Option.map_some, Option.some.injEq] at e
      subst e
      exact ⟨Row.lt hrow, hg, rfl⟩
/-- all headers are there: to read -/
theorem LLh.llr {w : World} {base : Nat} {u : Value} {hs : Nat → Value} {xs : Nat → List Int} {m : Nat} (hL : LLh w base u hs xs m m) : LLr w base u ((List.range m).map xs) := by
  have h1 := hL.1
  unfold Hd at h1
  refine ⟨(List.range m).map hs, by simpa using h1, fun k hk => ?_⟩
  have hkm : k < m := by simpa using hk
  obtain ⟨B, d, h1, h2, h3⟩ := (hL.2.1 k hkm).il
  have e : nthLL ((List.range m).map xs) k = xs k := by simp [nthLL, hkm]
  rw [e]
  refine ⟨B, d, by simp [hkm, h1], h2, fun b e => ⟨(h3 b e).1, hL.2.2.1 k hkm b (h3 b e).2.2, (h3 b e).2.1⟩⟩

theorem LLh.congr {w : World} {base : Nat} {u : Value} {hs : Nat → Value} {xs ys : Nat → List Int} {m n : Nat} (h : LLh w base u hs xs m n) (e : ∀ k, k < n → xs k = ys k) : LLh w base u hs ys m n :=
  ⟨h.1, fun k hk => e k hk ▸ h.2.1 k hk, h.2.2.1, h.2.2.2⟩
/-- block g holds the headers of m rows of m numbers each: op's table -/
def Tb (w : World) (g : Nat) (op : Int → Int → Int) (m : Nat) : Prop :=
  g < w.heap.size ∧ ∀ a : Nat, a < m → ∃ p o d, p < w.heap.size ∧ w.cell? ⟨g, a, none⟩ = some (.slice (some ⟨p, o, none⟩) m d) ∧ ∀ b : Nat, b < m → w.cell? ⟨p, o + b, none⟩ = some (.int .i64 (op a b))
theorem Tb.below {w w' : World} {g : Nat} {op : Int → Int → Int} {m : Nat} (h : Tb w g op m) (hb : Below w.heap.size w w') : Tb w' g op m := by
  refine ⟨Nat.lt_of_lt_of_le h.1 hb.size, fun a ha => ?_⟩
  obtain ⟨p, o, d, h1, h2, h3⟩ := h.2 a ha
  exact ⟨p, o, d, Nat.lt_of_lt_of_le h1 hb.size, (hb.cell (p := ⟨g, a, none⟩) h.1).trans h2, fun b hb2 => (hb.cell (p := ⟨p, o + b, none⟩) h1).trans (h3 b hb2)⟩
theorem LLh.form {w : World} {base : Nat} {u : Value} {hs : Nat → Value} {xs : Nat → List Int} {m n : Nat} (h : LLh w base u hs xs m n) (hm : 0 < m) : ∃ g c, u = .slice (some ⟨g, 0, none⟩) m c ∧ base ≤ g ∧ g < w.heap.size := by
  rcases h.1.2 with ⟨_, h0⟩ | ⟨g, cap, cur, hv, hb, hg, _⟩
  · omega
  · exact ⟨g, cap, hv, hb, Row.lt hg⟩
theorem Ro.form {w : World} {base : Nat} {u : Value} {xs : List Int} (h : Ro w base u xs) (hm : 0 < xs.length) : ∃ g c, u = .slice (some ⟨g, 0, none⟩) xs.length c ∧ base ≤ g ∧ g < w.heap.size ∧ ∀ k, k < xs.length → w.cell? ⟨g, k, none⟩ = some (.int .i64 (nthI xs k)) := by
  rcases h.2 with ⟨_, h0⟩ | ⟨g, cap, cur, hv, hb, hg, hnc, _, hcs, htk⟩
  · omega
  · refine ⟨g, cap, hv, hb, Row.lt hg, fun k hk => ?_⟩
    rw [Row.cell hg]
    have h3 : (xs.map (Value.int .i64))[k]? = some (.int .i64 (nthI xs k)) := by simp [nthI, hk]
    rw [← htk, List.getElem?_take_of_lt (by omega), Array.getElem?_toList] at h3
    exact h3
theorem LLh.tb {w : World} {base g c m : Nat} {hs : Nat → Value} {op : Int → Int → Int} (h : LLh w base (.slice (some ⟨g, 0, none⟩) m c) hs (tabR op m) m m) (hm : 0 < m) : Tb w g op m := by
  refine ⟨(World.ownsRow.lt h.1 g (by simp [Value.ownBlock])).2, fun a ha => ?_⟩
  obtain ⟨h1, _, _⟩ := h.at_ ha
  obtain ⟨p, d, h2, _, h3, h4⟩ := (h.2.1 a ha).form (by rw [tabR_len]; omega)
  rw [tabR_len] at h2 h4
  refine ⟨p, 0, d, h3, by rw [h1, h2], fun b hb => ?_⟩
  rw [Nat.zero_add, h4 b hb, tabR_nth op hb]

end Go.Proofs.Ytgbkonnmjmlalaa

/- Contracts: meets, numbersOf; conditions: stated in each. -/
namespace Go.Proofs.Ytgbkonnmjmlalaa
open Go.RowKit
set_option maxHeartbeats 400000
set_option linter.unusedSimpArgs false
set_option linter.unusedVariables false

theorem meets_any (a b : Blk) (w : World) :
    Calls Try.prog 118 #[.agg #[.int .i64 a.1, .int .i64 a.2.1, .int .i64 a.2.2], .agg #[.int .i64 b.1, .int .i64 b.2.1, .int .i64 b.2.2]] w fun e w' => e = .returned (.bool (meetB a b)) ∧ Below w.heap.size w w' := by
  have hM : Hid (meetB a b = (hasB b a.1 || hasB b a.2.1 || hasB b a.2.2)) := rfl
  generalize meetB a b = M at *
  cases h0 : hasB b a.1
  · cases h1 : hasB b a.2.1
    · skip
      go_enter Try.func118, Try.ntmps118
      obtain ⟨hA0, hB0, hW0⟩ := Box.two w a b 75
      have HA0 := Lib.hid hA0; have HB0 := Lib.hid hB0; have HW0 := Lib.hid hW0; clear hA0 hB0 hW0
      go_wp2_with fail
      refine (has_any b _ _).mono ?_
      rintro e w1 ⟨rfl, hb⟩
      have HA1 := Lib.hid (HA0.out.below hb); have HB1 := Lib.hid (HB0.out.below hb)
      have HW1 : Hid (Below w.heap.size w w1) := below_up HW0.out hb
      clear hb
      obtain ⟨q0, q1, q2⟩ := HA1.out.three; obtain ⟨r0, r1, r2⟩ := HB1.out.three
      go_wp2_with fail
      clear q0 q1 q2 r0 r1 r2
      refine (has_any b _ _).mono ?_
      rintro e w2 ⟨rfl, hb⟩
      have HA2 := Lib.hid (HA1.out.below hb); have HB2 := Lib.hid (HB1.out.below hb)
      have HW2 : Hid (Below w.heap.size w w2) := below_up HW1.out hb
      clear hb
      obtain ⟨q0, q1, q2⟩ := HA2.out.three; obtain ⟨r0, r1, r2⟩ := HB2.out.three
      go_wp2_with fail
      clear q0 q1 q2 r0 r1 r2
      refine (has_any b _ _).mono ?_
      rintro e w3 ⟨rfl, hb⟩
      have HA3 := Lib.hid (HA2.out.below hb); have HB3 := Lib.hid (HB2.out.below hb)
      have HW3 : Hid (Below w.heap.size w w3) := below_up HW2.out hb
      clear hb
      obtain ⟨q0, q1, q2⟩ := HA3.out.three; obtain ⟨r0, r1, r2⟩ := HB3.out.three
      go_wp2
      go_ret
      exact ⟨ret_bool (by rw [hM.out, h0, h1]; rfl), HW3.out⟩
    · skip
      go_enter Try.func118, Try.ntmps118
      obtain ⟨hA0, hB0, hW0⟩ := Box.two w a b 75
      have HA0 := Lib.hid hA0; have HB0 := Lib.hid hB0; have HW0 := Lib.hid hW0; clear hA0 hB0 hW0
      go_wp2_with fail
      refine (has_any b _ _).mono ?_
      rintro e w1 ⟨rfl, hb⟩
      have HA1 := Lib.hid (HA0.out.below hb); have HB1 := Lib.hid (HB0.out.below hb)
      have HW1 : Hid (Below w.heap.size w w1) := below_up HW0.out hb
      clear hb
      obtain ⟨q0, q1, q2⟩ := HA1.out.three; obtain ⟨r0, r1, r2⟩ := HB1.out.three
      go_wp2_with fail
      clear q0 q1 q2 r0 r1 r2
      refine (has_any b _ _).mono ?_
      rintro e w2 ⟨rfl, hb⟩
      have HA2 := Lib.hid (HA1.out.below hb); have HB2 := Lib.hid (HB1.out.below hb)
      have HW2 : Hid (Below w.heap.size w w2) := below_up HW1.out hb
      clear hb
      obtain ⟨q0, q1, q2⟩ := HA2.out.three; obtain ⟨r0, r1, r2⟩ := HB2.out.three
      go_wp2
      go_ret
      exact ⟨ret_bool (by rw [hM.out, h0, h1]; rfl), HW2.out⟩
  · skip
    go_enter Try.func118, Try.ntmps118
    obtain ⟨hA0, hB0, hW0⟩ := Box.two w a b 75
    have HA0 := Lib.hid hA0; have HB0 := Lib.hid hB0; have HW0 := Lib.hid hW0; clear hA0 hB0 hW0
    go_wp2_with fail
    refine (has_any b _ _).mono ?_
    rintro e w1 ⟨rfl, hb⟩
    have HA1 := Lib.hid (HA0.out.below hb); have HB1 := Lib.hid (HB0.out.below hb)
    have HW1 : Hid (Below w.heap.size w w1) := below_up HW0.out hb
    clear hb
    obtain ⟨q0, q1, q2⟩ := HA1.out.three; obtain ⟨r0, r1, r2⟩ := HB1.out.three
    go_wp2
    go_ret
    exact ⟨ret_bool (by rw [hM.out, h0]; rfl), HW1.out⟩

theorem infoInt' : (Try.prog.info? 2).map (fun i => (i.zero, i.size, i.bytes)) = some (some (.int .i64 0), 1, 8) := by kernel_rfl

end Go.Proofs.Ytgbkonnmjmlalaa

/- Contracts of tables of products; conditions: stated in each. -/
namespace Go.Proofs.Ytgbkonnmjmlalaa
open Go.RowKit
set_option maxHeartbeats 400000
set_option maxRecDepth 100000
set_option linter.unusedSimpArgs false
set_option linter.unusedVariables false

theorem infoList' : (Try.prog.info? 39).map (fun i => (i.zero, i.size, i.bytes)) = some (some (.slice none 0 0), 1, 24) := by kernel_rfl

theorem Ro.cells {w : World} {base g : Nat} {c : Nat} {xs : List Int} (h : Ro w base (.slice (some ⟨g, 0, none⟩) xs.length c) xs) : ∀ j u, (xs.map (Value.int .i64))[j]? = some u → w.cell? ((⟨g, 0, none⟩ : Addr).add j) = some u := World.ownsRow.cells h (by simp [Value.ownBlock])
theorem l01Own_any (u : Value) (base : Nat) (ns : List Int) (w : World) (hR : Ro w base u ns) (hl : ns.length ≤ 1048576) :
    Calls Try.prog 114 #[u] w fun e w' => ∃ r, e = .returned r ∧ Ro w' w.heap.size r ns ∧ Below w.heap.size w w' := by
  obtain ⟨ni0, hni, hni0, hni1, hni2⟩ := info_parts infoInt'
  have HE : Hid (Ro (w.alloc (.cells #[] 2)) w.heap.size (.slice (some ⟨w.heap.size, 0, none⟩) 0 0) []) := own_empty _ _ _
  have HB := Lib.hid (below_alloc w (.cells #[] 2))
  have HR := Lib.hid hR
  rcases hR.2 with ⟨rfl, h0⟩ | ⟨g, cap, cur, rfl, _⟩
  · obtain rfl := List.eq_nil_of_length_eq_zero h0
    clear hR
    go_enter Try.func114, Try.ntmps114
    go_wp2_with (at_builtin; refine wpList_append_own_none rfl _ _ 39 rfl w.heap.size 2 ni0 1 (by rfl) hni _ 0 [] rfl HE.out rfl ?_)
    go_ret
    exact ⟨_, rfl, HE.out, HB.out⟩
  · clear hR
    have HRC := Lib.hid (HR.out.below HB.out)
    go_enter Try.func114, Try.ntmps114
    go_wp2_with (at_builtin; refine wpList_append_own _ rfl _ _ 39 rfl w.heap.size 2 ni0 (.int .i64 0) 1 8 Try.underlying39 hni hni0 hni1 hni2 rfl (by decide) _ _ _ rfl HE.out ⟨g, 0, none⟩ ns.length cap (ns.map (Value.int .i64)) rfl (by simp) (Ro.cells HRC.out) (by simp [Value.oneCell']) (by unfold maxLen; simp; omega) (by simp; omega) (by simp) ?_; intro v2 w2 hown2 hg2 _)
    have HO : Hid (Ro w2 w.heap.size v2 ns) := by unfold Hid Ro; simpa using hown2
    have HB2 : Hid (Below w.heap.size w w2) := HB.out.grown hg2 HB.out.size (own_block HE.out)
    clear hown2 hg2
    go_ret
    exact ⟨_, rfl, HO.out, HB2.out⟩

end Go.Proofs.Ytgbkonnmjmlalaa

/- Contracts for AreDisjoint and IsClass, of the reference and of the program; conditions: stated in each. -/
namespace Go.Proofs.Ytgbkonnmjmlalaa
open Go.RowKit
set_option maxHeartbeats 400000
set_option linter.unusedSimpArgs false
set_option linter.unusedVariables false

/-- the code of a system and of a set of blocks -/
noncomputable def setCode (v : Int) (xs : List Blk) (ls : List Int) : Int := if isSysB v xs = true then (if risesB ls xs.length = true then 0 else 2) else 1
theorem setCode_zero {v : Int} {xs : List Blk} {ls : List Int} (h : setCode v xs ls = 0) : isSysB v xs = true ∧ risesB ls xs.length = true := by
  unfold setCode at h; (repeat' split at h) <;> simp_all

theorem l05Bits_any (b : Blk) (w : World) (hg : goodB 15 b = true) :
    Calls Try.prog 107 #[.agg #[.int .i64 b.1, .int .i64 b.2.1, .int .i64 b.2.2]] w fun e w' => e = .returned (.int .i64 (maskB b : Nat)) ∧ Below w.heap.size w w' := by
  obtain ⟨h0, h1, h2, h3⟩ := good_bd hg
  obtain ⟨x, y, z⟩ := b
  dsimp only at *
  obtain ⟨X, rfl⟩ := Int.eq_ofNat_of_zero_le h0
  obtain ⟨Y, rfl⟩ := Int.eq_ofNat_of_zero_le (by omega : 0 ≤ y)
  obtain ⟨Z, rfl⟩ := Int.eq_ofNat_of_zero_le (by omega : 0 ≤ z)
  have hp : ∀ n : Nat, n < 15 → 2 ^ n < 32768 := fun n hn => Nat.pow_lt_pow_right (by omega) hn
  have hx := hp X (by omega); have hy := hp Y (by omega); have hz := hp Z (by omega)
  have HM : Hid ((maskB ((X : Int), (Y : Int), (Z : Int)) : Nat) = 2 ^ X + 2 ^ Y + 2 ^ Z) := rfl
  generalize maskB _ = M at *
  have HX := Lib.hid hx; have HY := Lib.hid hy; have HZ := Lib.hid hz
  clear hp hx hy hz hg
  go_enter Try.func107, Try.ntmps107
  go_wp2
  go_ret
  refine ⟨ret_int ?_, below_alloc _ _⟩
  have hx := HX.out; have hy := HY.out; have hz := HZ.out
  have ex : ∀ n : Nat, ((2 : Int) ^ n) = ((2 ^ n : Nat) : Int) := fun n => by push_cast; rfl
  rw [HM.out, ex, ex, ex]
  generalize 2 ^ X = a at *
  generalize 2 ^ Y = b at *
  generalize 2 ^ Z = c at *
  go_unwrap
  push_cast
  rfl

end Go.Proofs.Ytgbkonnmjmlalaa

/- Plain laws of the sets of disjoint blocks, in order, and of their number. Conditions: none. -/
namespace Go.Proofs.Ytgbkonnmjmlalaa

/-- what the rounds from 'from' to below m give, one after another -/
def loopL (f : Nat → List (List Int)) (p : Nat → Bool) (from_ : Nat) : Nat → List (List Int)
  | 0 => []
  | i + 1 => loopL f p from_ i ++ (if from_ ≤ i ∧ p i = true then f i else [])
def loopS (f : Nat → Nat) (p : Nat → Bool) (from_ : Nat) : Nat → Nat
  | 0 => 0
  | i + 1 => loopS f p from_ i + (if from_ ≤ i ∧ p i = true then f i else 0)
theorem loopL_nil (f : Nat → List (List Int)) (p : Nat → Bool) (a : Nat) : ∀ m, m ≤ a → loopL f p a m = [] := by
  intro m
  induction m with
  | zero => intro _; rfl
  | succ m ih => intro h; rw [loopL, ih (by omega), if_neg (by omega)]; rfl
theorem loopS_nil (f : Nat → Nat) (p : Nat → Bool) (a : Nat) : ∀ m, m ≤ a → loopS f p a m = 0 := by
  intro m
  induction m with
  | zero => intro _; rfl
  | succ m ih => intro h; rw [loopS, ih (by omega), if_neg (by omega)]
/-- whether a block meets none of some blocks -/
noncomputable def okI (xs : List Blk) (now : List Int) (i : Nat) : Bool := open Classical in decide (∀ k, k < now.length → meetB (blkAt xs now k) (nth xs i) = false)
def fromI (now : List Int) : Nat := if now.length = 0 then 0 else (nthI now (now.length - 1)).toNat + 1
/-- the sets of d more disjoint blocks, in order -/
noncomputable def disL (xs : List Blk) : Nat → List Int → List (List Int)
  | 0, now => [now]
  | d + 1, now => loopL (fun i => disL xs d (now ++ [(i : Int)])) (okI xs now) (fromI now) xs.length
/-- their number, by the points' digits -/
def cntS (xs : List Blk) : Nat → Nat → Nat → Nat
  | 0, _, _ => 1
  | d + 1, m, a => loopS (fun i => cntS xs d (m ||| maskB (nth xs i)) (i + 1)) (fun i => maskB (nth xs i) &&& m == 0) a xs.length

theorem loop_len {f : Nat → List (List Int)} {g : Nat → Nat} {p q : Nat → Bool} {a n : Nat} (h : ∀ i, a ≤ i → i < n → p i = q i ∧ (p i = true → (f i).length = g i)) : ∀ m, m ≤ n → (loopL f p a m).length = loopS g q a m := by
  intro m
  induction m with
  | zero => intro _; rfl
  | succ m ih =>
    intro hm
    rw [loopL, loopS, List.length_append, ih (by omega)]
    by_cases ha : a ≤ m
    · obtain ⟨h1, h2⟩ := h m ha (by omega)
      by_cases hp : p m = true
      · rw [if_pos ⟨ha, hp⟩, if_pos ⟨ha, h1 ▸ hp⟩, h2 hp]
      · rw [if_neg (fun h3 => hp h3.2), if_neg (fun h3 => hp (h1 ▸ h3.2))]; rfl
    · rw [if_neg (fun h3 => ha h3.1), if_neg (fun h3 => ha h3.1)]; rfl
theorem nthI_app {now : List Int} {x : Int} {k : Nat} (h : k < now.length) : nthI (now ++ [x]) k = nthI now k := by
  simp [nthI, List.getElem?_append_left h]
theorem nthI_last (now : List Int) (x : Int) : nthI (now ++ [x]) now.length = x := by simp [nthI]
theorem rises_snoc {now : List Int} {n : Nat} {i : Nat} (hr : risesI now n) (hi : i < n) (hf : fromI now ≤ i) : risesI (now ++ [(i : Int)]) n := by
  intro k hk
  rw [List.length_append, List.length_singleton] at hk
  by_cases hkl : k < now.length
  · rw [nthI_app hkl]
    refine ⟨(hr k hkl).1, fun h0 => ?_⟩
    rw [nthI_app (by omega)]
    exact (hr k hkl).2 h0
  · obtain rfl : k = now.length := by omega
    rw [nthI_last]
    refine ⟨by omega, fun h0 => ?_⟩
    rw [nthI_app (by omega)]
    have := (hr (now.length - 1) (by omega)).1
    unfold fromI at hf
    rw [if_neg (by omega)] at hf
    omega
theorem fromI_snoc (now : List Int) (i : Nat) : fromI (now ++ [(i : Int)]) = i + 1 := by
  unfold fromI
  rw [if_neg (by simp), List.length_append, List.length_singleton, Nat.add_sub_cancel, nthI_last]; simp
theorem uni_app (xs : List Blk) (now : List Int) (x : Int) : ∀ k, k ≤ now.length → uni xs (now ++ [x]) k = uni xs now k := by
  intro k
  induction k with
  | zero => intro _; rfl
  | succ k ih => intro hk; rw [uni, uni, ih (by omega), blkAt, blkAt, nthI_app (by omega)]
theorem uni_snoc (xs : List Blk) (now : List Int) (i : Nat) : uni xs (now ++ [(i : Int)]) (now ++ [(i : Int)]).length = uni xs now now.length ||| maskB (nth xs i) := by
  rw [List.length_append, List.length_singleton, uni, uni_app _ _ _ _ (Nat.le_refl _), blkAt, nthI_last]; rfl
theorem meetB_symm {v v' : Int} {a b : Blk} (ha : goodB v a = true) (hb : goodB v' b = true) : meetB a b = meetB b a := by
  rw [Bool.eq_iff_iff, meet_iff a hb, meet_iff b ha, comI_symm]
theorem ok_iff {v : Int} {xs : List Blk} (ha : areB v xs) {now : List Int} {i : Nat} (hr : risesI now xs.length) (hi : i < xs.length) (hf : fromI now ≤ i) :
    okI xs now i = (maskB (nth xs i) &&& uni xs now now.length == 0) := by
  have hr2 := rises_snoc hr hi hf
  have hlen : (now ++ [(i : Int)]).length = now.length + 1 := by simp
  have hm := uni_meet ha hr2 (k := now.length) (by omega)
  have e : blkAt xs (now ++ [(i : Int)]) now.length = nth xs i := by rw [blkAt, nthI_last]; rfl
  rw [e, uni_app _ _ _ _ (Nat.le_refl _), Nat.and_comm] at hm
  rw [Bool.eq_iff_iff, beq_iff_eq, hm]
  unfold okI
  simp only [decide_eq_true_eq]
  have key : ∀ j, j < now.length → meetB (nth xs i) (blkAt xs (now ++ [(i : Int)]) j) = meetB (blkAt xs now j) (nth xs i) := by
    intro j hj
    have : blkAt xs (now ++ [(i : Int)]) j = blkAt xs now j := by rw [blkAt, blkAt, nthI_app hj]
    rw [this]
    exact meetB_symm (ha i hi).1 (blkAt_good ha hr hj)
  constructor
  · intro h j hj; rw [key j hj]; exact h j hj
  · intro h j hj; rw [← key j hj]; exact h j hj
theorem dis_len {v : Int} {xs : List Blk} (ha : areB v xs) : ∀ d now, risesI now xs.length → (disL xs d now).length = cntS xs d (uni xs now now.length) (fromI now) := by
  intro d
  induction d with
  | zero => intro now _; rfl
  | succ d ih =>
    intro now hr
    rw [disL, cntS]
    refine loop_len (n := xs.length) (fun i h1 h2 => ⟨ok_iff ha hr h2 h1, fun _ => ?_⟩) xs.length (Nat.le_refl _)
    rw [ih _ (rises_snoc hr h2 h1), uni_snoc, fromI_snoc]
theorem loopL_bd {f : Nat → List (List Int)} {p : Nat → Bool} {a B : Nat} (h : ∀ i, (f i).length ≤ B) (m : Nat) : (loopL f p a m).length ≤ m * B := by
  induction m with
  | zero => simp [loopL]
  | succ m ih =>
    have := h m
    rw [loopL, List.length_append, Nat.succ_mul]
    split
    · omega
    · simp; omega
theorem dis_bd {xs : List Blk} (hx : xs.length ≤ 35) : ∀ d now, (disL xs d now).length ≤ 35 ^ d := by
  intro d
  induction d with
  | zero => intro now; simp [disL]
  | succ d ih =>
    intro now
    rw [disL, Nat.pow_succ, Nat.mul_comm]
    exact Nat.le_trans (loopL_bd (fun i => ih _) _) (Nat.mul_le_mul_right _ hx)

theorem loopS_bd {f : Nat → Nat} {p : Nat → Bool} {a B : Nat} (h : ∀ i, f i ≤ B) (m : Nat) : loopS f p a m ≤ m * B := by
  induction m with
  | zero => simp [loopS]
  | succ m ih =>
    have := h m
    rw [loopS, Nat.succ_mul]
    split <;> omega
theorem cnt_bd {xs : List Blk} (hx : xs.length ≤ 35) : ∀ d m a, cntS xs d m a ≤ 35 ^ d := by
  intro d
  induction d with
  | zero => intro m a; simp [cntS]
  | succ d ih =>
    intro m a
    rw [cntS, Nat.pow_succ, Nat.mul_comm]
    exact Nat.le_trans (loopS_bd (fun i => ih _ _) _) (Nat.mul_le_mul_right _ hx)

end Go.Proofs.Ytgbkonnmjmlalaa

/- Contracts of the count of sets of disjoint blocks; conditions: stated in each. -/
namespace Go.Proofs.Ytgbkonnmjmlalaa
open Go.RowKit
set_option maxHeartbeats 400000
set_option maxRecDepth 100000
set_option linter.unusedSimpArgs false
set_option linter.unusedVariables false

end Go.Proofs.Ytgbkonnmjmlalaa

/- Contracts of copies of lists, of the search in a list with a guard, and of rows that grow; conditions: stated in each. -/
namespace Go.Proofs.Ytgbkonnmjmlalaa
open Go.RowKit
set_option maxHeartbeats 400000
set_option maxRecDepth 100000
set_option linter.unusedSimpArgs false
set_option linter.unusedVariables false

@[go_sem] theorem eq_nil_slice (a : Option Addr) (l c : Nat) (w : World) : (binOp .eql 39 (.slice a l c) (.slice none 0 0)).run Try.prog w = .ok (.bool a.isNone) w := by
  have := run_equal_slice_nil (P := Try.prog) w 39 2 a l c Try.underlying39
  simp [binOp, this]
theorem clone_any (u : Value) (base : Nat) (ns : List Int) (w : World) (hR : Ro w base u ns) (hl : ns.length ≤ 1048576) :
    Calls Try.prog 69 #[u] w fun e w' => ∃ r, e = .returned r ∧ Ro w' w.heap.size r ns ∧ Below w.heap.size w w' := by
  obtain ⟨ni0, hni, hni0, hni1, hni2⟩ := info_parts infoInt'
  have HE : Hid (Ro (w.alloc (.cells #[] 2)) w.heap.size (.slice (some ⟨w.heap.size, 0, none⟩) 0 0) []) := own_empty _ _ _
  have HB := Lib.hid (below_alloc w (.cells #[] 2))
  have HR := Lib.hid hR
  rcases hR.2 with ⟨rfl, h0⟩ | ⟨g, cap, cur, rfl, _⟩
  · obtain rfl := List.eq_nil_of_length_eq_zero h0
    clear hR
    go_enter Try.func69, Try.ntmps69
    go_wp2
    go_ret
    exact ⟨_, rfl, World.ownsRow_nil _ _ _ _, Below.refl _ _⟩
  · clear hR
    have HRC := Lib.hid (HR.out.below HB.out)
    go_enter Try.func69, Try.ntmps69
    go_wp2_with (at_builtin; refine wpList_append_own _ rfl _ _ 39 rfl w.heap.size 2 ni0 (.int .i64 0) 1 8 Try.underlying39 hni hni0 hni1 hni2 rfl (by decide) _ _ _ rfl HE.out ⟨g, 0, none⟩ ns.length cap (ns.map (Value.int .i64)) rfl (by simp) (Ro.cells HRC.out) (by simp [Value.oneCell']) (by unfold maxLen; simp; omega) (by simp; omega) (by simp) ?_; intro v2 w2 hown2 hg2 _)
    have HO : Hid (Ro w2 w.heap.size v2 ns) := by unfold Hid Ro; simpa using hown2
    have HB2 : Hid (Below w.heap.size w w2) := HB.out.grown hg2 HB.out.size (own_block HE.out)
    clear hown2 hg2
    go_ret
    exact ⟨_, rfl, HO.out, HB2.out⟩

theorem indexFuncIn_any (A : Option Addr) (c : Nat) (ls : List Int) (g : Nat) (fa la : Array Value) (p : Int → Bool) (w : World) (hA : Il w A ls) (hl : ls.length ≤ 1048576)
    (eg : ∀ args w, (callFunc g args).run Try.prog w = .ok (.enter g args) w)
    (hp : ∀ (W : World) (k : Nat), k < ls.length → Below w.heap.size w W → Calls Try.prog g (fa ++ #[.int .i64 (nthI ls k)] ++ la) W fun e w' => e = .returned (.bool (p (nthI ls k))) ∧ Below W.heap.size W w') :
    Calls Try.prog 129 #[.slice A ls.length c, .func (.func g) fa la] w fun e w' => ∃ r : Int, e = .returned (.int .i64 r) ∧ decide (r ≥ 0) = anyP p ls ∧ Below w.heap.size w w' := by
  have HA := Lib.hid hA; have HP := Lib.hid hp; clear hA hp
  go_enter Try.func129, Try.ntmps129
  go_wp2
  go_loopw [8] (fun i wr => ∃ k : Nat, k ≤ ls.length ∧ i = .int .i64 k ∧ Below w.heap.size w wr ∧ Hid (∀ j, j < k → p (nthI ls j) = false)) (fun i _ => ls.length - (intOf i).toNat)
  case atStart => exact ⟨0, by omega, rfl, Below.refl _ _, fun i hi => by omega⟩
  case round =>
    obtain ⟨k, hk, rfl, hb, HC⟩ := hrel
    by_cases hlt : k < ls.length
    · obtain ⟨b1, o1, hA1, hb1, p0⟩ := (HA.out.below hb).at_ hlt
      subst hA1
      go_wp2_with fail
      refine (HP.out _ k hlt hb).mono ?_
      cases hq : p (nthI ls k)
      · rintro e w1 ⟨rfl, hb1⟩
        have HB := Lib.hid (below_up hb hb1); clear hb1
        go_wp2
        go_roundw
        case rel =>
          refine ⟨k + 1, by omega, by go_num, HB.out, fun i hi => ?_⟩
          by_cases hij : i < k
          · exact HC.out i hij
          · obtain rfl : i = k := by omega
            exact hq
        case measure => simp [intOf]; omega
      · rintro e w1 ⟨rfl, hb1⟩
        have HB := Lib.hid (below_up hb hb1); clear hb1
        go_wp2
        go_ret
        exact ⟨(k : Int), rfl, by rw [anyP_true hlt hq]; simp, HB.out⟩
    · obtain rfl : k = ls.length := by omega
      go_wp2
      go_ret
      exact ⟨-1, rfl, by rw [anyP_false HC.out]; rfl, hb⟩

theorem containsFuncIn_any (A : Option Addr) (c : Nat) (ls : List Int) (g : Nat) (fa la : Array Value) (p : Int → Bool) (w : World) (hA : Il w A ls) (hl : ls.length ≤ 1048576)
    (eg : ∀ args w, (callFunc g args).run Try.prog w = .ok (.enter g args) w)
    (hp : ∀ (W : World) (k : Nat), k < ls.length → Below w.heap.size w W → Calls Try.prog g (fa ++ #[.int .i64 (nthI ls k)] ++ la) W fun e w' => e = .returned (.bool (p (nthI ls k))) ∧ Below W.heap.size W w') :
    Calls Try.prog 116 #[.slice A ls.length c, .func (.func g) fa la] w fun e w' => e = .returned (.bool (anyP p ls)) ∧ Below w.heap.size w w' := by
  have HA := Lib.hid hA; have HP := Lib.hid hp; clear hA hp
  go_enter Try.func116, Try.ntmps116
  go_wp2_with fail
  refine (indexFuncIn_any A c ls g fa la p _ HA.out hl eg HP.out).mono ?_
  rintro e w1 ⟨r, rfl, hr, hb⟩
  have HB := Lib.hid hb; clear hb
  go_wp2
  go_ret
  exact ⟨ret_bool rfl, HB.out⟩

theorem meets_is {a b : Blk} {r : Bool} (h : meetB a b = r) (w : World) :
    Calls Try.prog 118 #[.agg #[.int .i64 a.1, .int .i64 a.2.1, .int .i64 a.2.2], .agg #[.int .i64 b.1, .int .i64 b.2.1, .int .i64 b.2.2]] w fun e w' => e = .returned (.bool r) ∧ Below w.heap.size w w' := h ▸ meets_any a b w

theorem disCl_any (v : Int) (A : Option Addr) (c : Nat) (xs : List Blk) (k : Nat) (b : Blk) (rx rb : Nat) (w : World) (hA : Bl w A xs) (hR : Row w rx 30 #[.int .i64 v, .slice A xs.length c]) (hB : Box w rb b) (hk : k < xs.length) (hl : xs.length ≤ 1048576) :
    Calls Try.prog 117 #[.int .i64 (k : Int), .pointer (some ⟨rx, 0, none⟩), .pointer (some ⟨rb, 0, none⟩)] w fun e w' => e = .returned (.bool (meetB (nth xs k) b)) ∧ Below w.heap.size w w' := by
  obtain ⟨c0, c1⟩ := hR.c2
  have hsz := hR.lt
  obtain ⟨x0, x1, x2⟩ := hB.three
  have hsb := hB.1
  obtain ⟨b1, o1, hA1, hb1, p0, p1, p2⟩ := hA.at_ hk
  subst hA1
  clear hA hR hB
  cases hm : meetB (nth xs k) b
  · go_enter Try.func117, Try.ntmps117
    go_wp2
    refine wp_region_ge_lit (by kernel_rfl) (by kernel_rfl) ?_; (repeat (go_big_quiet_step ((go_at_call 118; exact ge_call (meets_is hm _))))); refine wpQuiet_nil ?_
    rintro w1 ⟨x, rfl⟩
    go_wp2
    go_ret
    exact ⟨rfl, ge_below _ _⟩
  · go_enter Try.func117, Try.ntmps117
    go_wp2
    refine wp_region_ge_lit (by kernel_rfl) (by kernel_rfl) ?_; (repeat (go_big_quiet_step ((go_at_call 118; exact ge_call (meets_is hm _))))); refine wpQuiet_nil ?_
    rintro w1 ⟨x, rfl⟩
    go_wp2
    go_ret
    exact ⟨rfl, ge_below _ _⟩

theorem any_ok (xs : List Blk) (now : List Int) (i : Nat) : anyP (fun k => meetB (nth xs k.toNat) (nth xs i)) now = !okI xs now i := by
  by_cases h : ∀ k, k < now.length → meetB (blkAt xs now k) (nth xs i) = false
  · rw [anyP_false h]; unfold okI; simp; exact h
  · have h2 := h
    simp only [Classical.not_forall] at h
    obtain ⟨k, hk, hm⟩ := h
    rw [anyP_true hk (by simpa [blkAt] using hm)]
    unfold okI; rw [decide_eq_false h2]; rfl

theorem grown_join {W a b : World} {row row' : Option Nat} (h : W.grownBy a row) (k : a.grownBy b row') (hr : row' = row ∨ ∃ q, row' = some q ∧ W.heap.size ≤ q) : W.grownBy b row := by
  refine ⟨k.os.trans h.os, k.tape.trans h.tape, k.output.trans h.output, Nat.le_trans h.size k.size, fun i hi hne => ?_⟩
  rw [← h.block i hi hne]
  refine k.block i (Nat.lt_of_lt_of_le hi h.size) ?_
  rcases hr with rfl | ⟨q, rfl, hq⟩
  · exact hne
  · intro e; simp only [Option.some.injEq] at e; omega
theorem Bl.grown {w w' : World} {A : Option Addr} {xs : List Blk} {row : Option Nat} (h : Bl w A xs) (hg : w.grownBy w' row) (hA : ∀ b, A.map Addr.block = some b → row ≠ some b ∨ xs = []) : Bl w' A xs := by
  rcases h with rfl | ⟨b, o, rfl, hlt, hc⟩
  · exact .inl rfl
  · rcases hA b rfl with hne | rfl
    · refine .inr ⟨b, o, rfl, Nat.lt_of_lt_of_le hlt hg.size, fun k hk => ?_⟩
      have hh := hg.block b hlt (fun e => hne e.symm)
      obtain ⟨h0, h1, h2⟩ := hc k hk
      exact ⟨(World.cell?_of_block (a := ⟨b, o + k * 3, none⟩) hh).trans h0, (World.cell?_of_block (a := ⟨b, o + k * 3 + 1, none⟩) hh).trans h1, (World.cell?_of_block (a := ⟨b, o + k * 3 + 2, none⟩) hh).trans h2⟩
    · exact .inl rfl
theorem Row.grown {w w' : World} {g : Nat} {t : TypeId} {cur : Array Value} {row : Option Nat} (h : Row w g t cur) (hg : w.grownBy w' row) (hne : row ≠ some g) : Row w' g t cur := (hg.block g h.lt (fun e => hne e.symm)).trans h
theorem Ro.grown {w w' : World} {base : Nat} {u : Value} {xs : List Int} {row : Option Nat} (h : Ro w base u xs) (hg : w.grownBy w' row) (hne : ∀ b, u.ownBlock = some b → row ≠ some b) : Ro w' base u xs := by
  refine World.ownsRow.kept h hg ?_
  cases e : u.ownBlock with
  | none => exact .inl rfl
  | some b => right; intro e2; exact hne b e e2.symm

end Go.Proofs.Ytgbkonnmjmlalaa

/- The contract of the program's lists of sets of disjoint blocks; conditions: stated in it. -/
namespace Go.Proofs.Ytgbkonnmjmlalaa
open Go.RowKit
set_option maxHeartbeats 1000000
set_option maxRecDepth 100000
set_option linter.unusedSimpArgs false
set_option linter.unusedVariables false

theorem Ro.slot {w w' : World} {base : Nat} {u : Value} {xs : List Int} {row : Option Nat} (h : Ro w base u xs) (hg : w.grownBy w' row) (hne : ∀ b, u.ownBlock = some b → row ≠ some b) : Ro w' base u xs := h.grown hg hne
/-- u is a row of its own of the lists' headers; each list is a row of its own too -/
def LLq (w : World) (base : Nat) (u : Value) (xss : List (List Int)) : Prop :=
  ∃ vs, w.ownsRow base 39 1 u xss.length vs ∧ ∀ k, k < xss.length → ∃ h, vs[k]? = some h ∧ Ro w base h (nthLL xss k) ∧ ∀ b, h.ownBlock = some b → u.ownBlock ≠ some b
theorem LLq.nil (w : World) (base : Nat) : LLq w base (.slice none 0 0) [] := ⟨[], World.ownsRow_nil _ _ _ _, fun k hk => by simp at hk⟩
theorem LLq.below {w w' : World} {base : Nat} {u : Value} {xss : List (List Int)} (h : LLq w base u xss) (hb : Below w.heap.size w w') : LLq w' base u xss := by
  obtain ⟨vs, ho, hi⟩ := h
  refine ⟨vs, own_below ho hb, fun k hk => ?_⟩
  obtain ⟨r, h1, h2, h3⟩ := hi k hk
  exact ⟨r, h1, h2.below hb, h3⟩
theorem LLq.own_lt {w : World} {base : Nat} {u : Value} {xss : List (List Int)} (h : LLq w base u xss) : ∀ b, u.ownBlock = some b → base ≤ b ∧ b < w.heap.size := by
  obtain ⟨vs, ho, _⟩ := h
  intro b hb
  exact ho.lt b hb
theorem LLq.slice {w : World} {base : Nat} {u : Value} {xss : List (List Int)} (h : LLq w base u xss) : ∃ A c, u = .slice A xss.length c := by
  obtain ⟨vs, ho, _⟩ := h
  exact own_slice ho
theorem LLq.snoc {w w1 w2 : World} {base : Nat} {u v2 r : Value} {xss : List (List Int)} {vs : List Value} {xs : List Int}
    (hi : ∀ k, k < xss.length → ∃ h, vs[k]? = some h ∧ Ro w base h (nthLL xss k) ∧ ∀ b, h.ownBlock = some b → u.ownBlock ≠ some b) (hv : vs.length = xss.length) (hB : Ro w base r xs) (hf : ∀ b, r.ownBlock = some b → u.ownBlock ≠ some b)
    (hb : Below w.heap.size w w1) (hg : w1.grownBy w2 u.ownBlock) (ho : w2.ownsRow base 39 1 v2 (xss.length + 1) (vs ++ [r])) (hat : v2.ownBlock = u.ownBlock ∨ v2.ownBlock = some w1.heap.size) :
    LLq w2 base v2 (xss ++ [xs]) := by
  have key : ∀ {h : Value} {ys : List Int}, Ro w base h ys → (∀ b, h.ownBlock = some b → u.ownBlock ≠ some b) → Ro w2 base h ys ∧ ∀ b, h.ownBlock = some b → v2.ownBlock ≠ some b := by
    intro h ys h1 h2
    refine ⟨(h1.below hb).grown hg h2, fun b e => ?_⟩
    rcases hat with h' | h'
    · rw [h']; exact h2 b e
    · rw [h']; intro e2
      simp only [Option.some.injEq] at e2
      have := (h1.lt b e).2; have := hb.size; omega
  refine ⟨vs ++ [r], by rw [List.length_append]; exact ho, fun k hk => ?_⟩
  rw [List.length_append, List.length_singleton] at hk
  by_cases hkl : k < xss.length
  · obtain ⟨h, h1, h2, h3⟩ := hi k hkl
    have e : nthLL (xss ++ [xs]) k = nthLL xss k := by simp [nthLL, List.getElem?_append_left hkl]
    rw [e]
    exact ⟨h, by rw [List.getElem?_append_left (by omega)]; exact h1, key h2 h3⟩
  · obtain rfl : k = xss.length := by omega
    have e : nthLL (xss ++ [xs]) xss.length = xs := by simp [nthLL]
    rw [e]
    exact ⟨r, by rw [← hv]; simp, key hB hf⟩
theorem LLq.at_ {w : World} {base : Nat} {A : Option Addr} {n c : Nat} {xss : List (List Int)} (h : LLq w base (.slice A n c) xss) {k : Nat} (hk : k < xss.length) :
    ∃ g r, A = some ⟨g, 0, none⟩ ∧ g < w.heap.size ∧ w.cell? ⟨g, k, none⟩ = some r ∧ Ro w base r (nthLL xss k) := by
  obtain ⟨vs, ho, hi⟩ := h
  obtain ⟨r, h1, h2, h3⟩ := hi k hk
  rcases ho.2 with ⟨_, hn⟩ | ⟨g, cap, cur, hv, hge, hg, hnc, _, hcs, htk⟩
  · omega
  · simp only [Value.slice.injEq] at hv
    refine ⟨g, r, hv.1, Row.lt hg, ?_, h2⟩
    rw [Row.cell hg]
    rw [← htk, List.getElem?_take_of_lt (by omega), Array.getElem?_toList] at h1
    exact h1

/-- what a call leaves: u, a row of lists; but for the row of v and for new blocks all is as it was -/
def Grew (w w' : World) (v u : Value) : Prop := w.grownBy w' v.ownBlock ∧ (u.ownBlock = v.ownBlock ∨ ∃ b, u.ownBlock = some b ∧ w.heap.size ≤ b)
theorem Grew.refl (w : World) (v : Value) : Grew w w v v := ⟨grown_refl w _, .inl rfl⟩
theorem Grew.below {w a b : World} {v u : Value} (h : Grew w a v u) (hb : Below a.heap.size a b) : Grew w b v u := ⟨grown_trans h.1 (grown_below hb _), h.2⟩
theorem Grew.join {w a b : World} {v u x : Value} (h : Grew w a v u) (k : Grew a b u x) : Grew w b v x := by
  refine ⟨grown_join h.1 k.1 h.2, ?_⟩
  rcases k.2 with e | ⟨q, e, hq⟩
  · rw [e]; exact h.2
  · exact .inr ⟨q, e, Nat.le_trans h.1.size hq⟩
theorem Grew.out {w a : World} {v u : Value} {B : Nat} (h : Grew w a v u) (hB : B ≤ w.heap.size) (hv : ∀ b, v.ownBlock = some b → B ≤ b) : Below B w a := (Below.refl B w).grown h.1 hB hv
theorem Since.ofAlloc {w a : World} {o : Obj} {v u : Value} (h : Grew (w.alloc o) a v u) : Grew w a v u := by
  refine ⟨grown_trans (grown_below (below_alloc w o) _) h.1, ?_⟩
  rcases h.2 with e | ⟨q, e, hq⟩
  · exact .inl e
  · exact .inr ⟨q, e, by have : w.heap.size ≤ (w.alloc o).heap.size := by simp
                         omega⟩

theorem disjoint_zero (v : Int) (A : Option Addr) (c : Nat) (xs : List Blk) (base : Nat) (L : List (List Int)) (now : List Int) (uo un : Value) (w : World) (hb0 : base ≤ w.heap.size) (hL : LLq w base uo L) (hN : Ro w base un now) (hsep : ∀ b, un.ownBlock = some b → uo.ownBlock ≠ some b)
    (hn : now.length ≤ 5) (hlen : L.length ≤ 1000000000) :
    Calls Try.prog 90 #[.agg #[.int .i64 v, .slice A xs.length c], uo, un, .int .i64 now.length] w fun e w' => ∃ u, e = .returned u ∧ LLq w' base u (L ++ [now]) ∧ Grew w w' uo u := by
  obtain ⟨li0, hli, hli0, hli1, hli2⟩ := info_parts infoList'
  obtain ⟨An, cn, hun⟩ := own_slice hN
  subst hun
  have HB := Lib.hid (below_alloc w (.cells #[.int .i64 v, .slice A xs.length c] 30))
  have HN := Lib.hid (hN.below HB.out)
  have HL := Lib.hid (hL.below HB.out)
  have HSZ : Hid ((w.alloc (.cells #[.int .i64 v, .slice A xs.length c] 30)).heap.size = w.heap.size + 1) := World.size_alloc _ _
  clear hN hL
  go_enter Try.func90, Try.ntmps90
  go_wp2_with fail
  refine (clone_any _ base now _ HN.out (by omega)).mono ?_
  rintro e w1 ⟨r, rfl, hr, hb⟩
  have HB1 := Lib.hid (HB.out.trans (hb.mono HB.out.size))
  have HLL := Lib.hid (HL.out.below hb)
  obtain ⟨B, d, rfl⟩ := own_slice hr
  have HI : Hid (Ro w1 base (.slice B now.length d) now) := own_base hr (by have := HSZ.out; omega)
  have HF : Hid (∀ b, (Value.slice B now.length d).ownBlock = some b → uo.ownBlock ≠ some b) := by
    intro b e e2
    have := (hr.lt b e).1
    have := (HL.out.own_lt b e2).2
    omega
  have hs1 := HB1.out.size
  clear hr hb
  obtain ⟨vs_, ho_, hi_⟩ := HLL.out
  have hvl_ : vs_.length = L.length := by simpa using ho_.1
  have HOO := Lib.hid ho_; have HII := Lib.hid hi_
  clear ho_ hi_
  go_wp2_with (at_builtin; go_loud (refine wpList_append_own_at _ rfl _ _ 46 rfl base 39 li0 (.slice none 0 0) 1 24 Try.underlying46 hli hli0 hli1 hli2 rfl (by decide) _ _ vs_ rfl (HOO.out.alloc _) ⟨w1.heap.size, 0, none⟩ 1 1 [.slice B now.length d] rfl rfl (cells_newH (cw := w1) (by simp)) (by simp [Value.oneCell']) (by unfold maxLen; omega) (by omega) (by simp; omega) ?_); intro v2 w2 hown2 hg2 _ hat2)
  have HL2 := Lib.hid (LLq.snoc HII.out hvl_ HI.out HF.out (below_alloc _ _) hg2 hown2 hat2)
  have HG : Hid (Grew w w2 uo v2) := by
    refine ⟨grown_trans (grown_below HB1.out _) (grown_trans (grown_below (below_alloc _ _) _) hg2), ?_⟩
    rcases hat2 with e | e
    · exact .inl e
    · exact .inr ⟨_, e, by simp; omega⟩
  clear hown2 hg2 hat2
  go_wp2
  go_ret
  exact ⟨_, rfl, HL2.out, HG.out⟩

theorem cells_old {P w8 : World} (hb : Below P.heap.size P w8) {ad : Addr} {vs : List Value} (hlt : ad.block < P.heap.size) (h : ∀ j u, vs[j]? = some u → P.cell? (ad.add j) = some u) : ∀ j u, vs[j]? = some u → w8.cell? (ad.add j) = some u := by
  intro j u hj
  have e : (ad.add j).block = ad.block := by unfold Addr.add; split <;> rfl
  exact (hb.cell (p := ad.add j) (by rw [e]; exact hlt)).trans (h j u hj)
theorem Il.of_Ro {w : World} {base : Nat} {B : Option Addr} {n d : Nat} {xs : List Int} (h : Ro w base (.slice B n d) xs) : Il w B xs := by
  obtain ⟨B', d', e, h2, _⟩ := h.il
  simp only [Value.slice.injEq] at e
  rw [e.1]; exact h2

theorem disjoint_any (v : Int) (A : Option Addr) (c : Nat) (xs : List Blk) (hs : isSys v xs) : ∀ (d K base : Nat) (L : List (List Int)) (now : List Int) (uo un : Value) (w : World), K = now.length + d → K ≤ 5 → base ≤ w.heap.size → Bl w A xs → (∀ b, A.map Addr.block = some b → b < base ∨ xs = []) →
    LLq w base uo L → Ro w base un now → risesI now xs.length → (∀ b, un.ownBlock = some b → uo.ownBlock ≠ some b) → L.length + 35 ^ d ≤ 1000000000 →
    Calls Try.prog 90 #[.agg #[.int .i64 v, .slice A xs.length c], uo, un, .int .i64 (K : Int)] w fun e w' => ∃ u, e = .returned u ∧ LLq w' base u (L ++ disL xs d now) ∧ Grew w w' uo u := by
  intro d
  induction d with
  | zero =>
    intro K base L now uo un w hK hK5 hb0 hA hAb hL hN hr hsep hlen
    obtain rfl : K = now.length := by omega
    exact disjoint_zero v A c xs base L now uo un w hb0 hL hN hsep (by omega) (by omega)
  | succ d ih =>
    intro K base L now uo un w hK hK5 hb0 hA hAb hL hN hr hsep hlen
    have HIH := Lib.hid ih; clear ih
    obtain ⟨ni0, hni, hni0, hni1, hni2⟩ := info_parts infoInt'
    have h35 := hs.2.1
    have hv15 := hs.1.2
    have HAR : Hid (areB v xs) := hs.2.2.1
    obtain ⟨An, cn, hun⟩ := own_slice hN
    subst hun
    have HB := Lib.hid (below_alloc w (.cells #[.int .i64 v, .slice A xs.length c] 30))
    have HR := Lib.hid (Row.box w 30 (.int .i64 v) (.slice A xs.length c))
    have HA := Lib.hid (hA.below HB.out)
    have HN := Lib.hid (hN.below HB.out)
    have HL := Lib.hid (hL.below HB.out)
    have HUO : Hid (∀ b, uo.ownBlock = some b → base ≤ b ∧ b < w.heap.size) := hL.own_lt
    have HSZ : Hid ((w.alloc (.cells #[.int .i64 v, .slice A xs.length c] 30)).heap.size = w.heap.size + 1) := World.size_alloc _ _
    have HAB := Lib.hid hAb; have HSEP := Lib.hid hsep; have HRI := Lib.hid hr
    have HKD := Lib.hid hK
    have hne : ((now.length : Int) == (K : Int)) = false := by rw [beq_eq_false_iff_ne]; omega
    have hn5 : now.length ≤ 4 := by omega
    have hpw : 35 ^ (d + 1) = 35 * 35 ^ d := by rw [Nat.pow_succ, Nat.mul_comm]
    rw [hpw] at hlen
    have HPW := Lib.hid hlen
    have HD : Hid (disL xs (d + 1) now = loopL (fun i => disL xs d (now ++ [(i : Int)])) (okI xs now) (fromI now) xs.length) := rfl
    have HST : Hid (∀ i, loopL (fun i => disL xs d (now ++ [(i : Int)])) (okI xs now) (fromI now) (i + 1) = loopL (fun i => disL xs d (now ++ [(i : Int)])) (okI xs now) (fromI now) i ++ (if fromI now ≤ i ∧ okI xs now i = true then disL xs d (now ++ [(i : Int)]) else [])) := fun i => rfl
    have HNIL := Lib.hid (loopL_nil (fun i => disL xs d (now ++ [(i : Int)])) (okI xs now) (fromI now) (fromI now) (Nat.le_refl _))
    have HBD := Lib.hid (fun i => loopL_bd (f := fun i => disL xs d (now ++ [(i : Int)])) (p := okI xs now) (a := fromI now) (B := 35 ^ d) (fun i => dis_bd h35 d _) i)
    clear hA hN hL hAb hsep hr hs hK hpw hlen
    have hfn : fromI now ≤ xs.length := by
      unfold fromI; split
      · omega
      · have := (HRI.out (now.length - 1) (by omega)).1; omega
    have hfrom : (now.length = 0 ∧ fromI now = 0) ∨ (∃ m F : Nat, now.length = m + 1 ∧ fromI now = F + 1 ∧ nthI now m = (F : Int)) := by
      rcases Nat.eq_zero_or_pos now.length with h | h
      · exact .inl ⟨h, by unfold fromI; rw [if_pos h]⟩
      · refine .inr ⟨now.length - 1, (nthI now (now.length - 1)).toNat, by omega, by unfold fromI; rw [if_neg (by omega)], ?_⟩
        have := (HRI.out (now.length - 1) (by omega)).1; omega
    generalize hFR : fromI now = FR at *
    have HFR := Lib.hid hFR; clear hFR
    generalize loopL (fun i => disL xs d (now ++ [(i : Int)])) (okI xs now) FR = S at *
    rcases hfrom with ⟨hm, hF⟩ | ⟨m, F, hm, hF, hlast⟩
    all_goals
      first
      | (have HIl := Lib.hid (Il.of_Ro HN.out); obtain ⟨b0, o0, hA0, hbl0, p0⟩ := HIl.out.at_ (k := m) (by omega); subst hA0; rw [hlast] at p0; have HF := Lib.hid hF; have hF35 : F + 1 ≤ xs.length := (by omega); have hne2 : ((m : Int) + 1 == (K : Int)) = false := (by rw [beq_eq_false_iff_ne]; have := HKD.out; omega); clear HIl)
      | (have HF := Lib.hid hF; have hne2 : ((0 : Int) == (K : Int)) = false := (by rw [beq_eq_false_iff_ne]; have := HKD.out; omega))
      clear hF
      go_enter Try.func90, Try.ntmps90
      go_wp2
      clear hne hne2
      generalize hWo : w.alloc _ = W5 at *
      have HM := Lib.hid hm; clear hm
      try clear p0 hbl0
      go_loopw [1, 10] (fun u i wr => ∃ k : Nat, FR ≤ k ∧ k ≤ xs.length ∧ i = .int .i64 k ∧ Hid (Grew W5 wr uo u ∧ LLq wr base u (L ++ S k))) (fun _ i _ => xs.length - (intOf i).toNat)
      case atStart => exact ⟨FR, Nat.le_refl _, hfn, by rw [HF.out]; first | rfl | go_num, Grew.refl _ _, by rw [HNIL.out, List.append_nil]; exact HL.out⟩
      case round =>
        obtain ⟨k, hk0, hk, rfl, HC⟩ := hrel
        have HUN : Hid (uo.ownBlock ≠ some w.heap.size) := fun e => by have := (HUO.out _ e).2; omega
        have HRw := Lib.hid (HR.out.grown HC.out.1.1 HUN.out)
        have HAw := Lib.hid (HA.out.grown HC.out.1.1 (fun b e => (HAB.out b e).imp (fun h e2 => by have := (HUO.out b e2).1; omega) id))
        have HNw := Lib.hid (HN.out.grown HC.out.1.1 HSEP.out)
        have hbw : base ≤ wr.heap.size := by have := HC.out.1.1.size; have := HSZ.out; omega
        have hsw : W5.heap.size ≤ wr.heap.size := HC.out.1.1.size
        have HINw := Lib.hid (Il.of_Ro HNw.out)
        obtain ⟨c0, c1⟩ := HRw.out.c2
        have hsz := HRw.out.lt
        by_cases hlt : k < xs.length
        · obtain ⟨b1, o1, hA1, hb1, p0, p1, p2⟩ := HAw.out.at_ hlt
          subst hA1
          have HX := Lib.hid (Box.new wr (nth xs k) 75)
          have HBX := Lib.hid (below_alloc wr (.cells #[.int .i64 (nth xs k).1, .int .i64 (nth xs k).2.1, .int .i64 (nth xs k).2.2] 75))
          have HSTk := Lib.hid (HST.out k)
          go_wp2_with fail
          refine (containsFuncIn_any _ cn now 117 #[] #[.pointer (some ⟨w.heap.size, 0, none⟩), .pointer (some ⟨wr.heap.size, 0, none⟩)] (fun q => meetB (nth xs q.toNat) (nth xs k)) _ (HINw.out.below HBX.out) (by omega) (fun args w => by kernel_rfl)
            (fun W j hj hb => by
              have hrj := (HRI.out j hj).1
              obtain ⟨J, hJ⟩ := Int.eq_ofNat_of_zero_le hrj.1
              rw [hJ]
              exact disCl_any v _ c xs J (nth xs k) w.heap.size wr.heap.size W ((HAw.out.below HBX.out).below hb) ((HRw.out.below HBX.out).below hb) (HX.out.below hb) (by omega) (by omega))).mono ?_
          rw [any_ok]
          cases hok : okI xs now k
          · rintro e w7 ⟨rfl, hb⟩
            have HB7 := Lib.hid (below_up HBX.out hb); clear hb c0 c1 p0 p1 p2
            go_wp2
            go_roundw
            case rel => exact ⟨k + 1, by omega, by omega, by go_num, HC.out.1.below HB7.out, by rw [HSTk.out, if_neg (fun h => by rw [hok] at h; exact absurd h.2 (by simp)), List.append_nil]; exact HC.out.2.below HB7.out⟩
            case measure => simp [intOf]; omega
          · rintro e w7 ⟨rfl, hb⟩
            have HB7 := Lib.hid (below_up HBX.out hb); clear hb c0 c1 p0 p1 p2
            have HR7 := Lib.hid (HRw.out.below HB7.out)
            obtain ⟨c0, c1⟩ := HR7.out.c2
            have hs7 := HB7.out.size
            go_wp2
            have HKEEP := Lib.hid (And.intro c0 c1)
            clear c0 c1
            have HL7 := Lib.hid (HC.out.2.below HB7.out)
            have HN7 := Lib.hid (HNw.out.below HB7.out)
            have HA7 := Lib.hid (HAw.out.below HB7.out)
            have HU1 : Hid (∀ b, u1.ownBlock = some b → base ≤ b ∧ b < w7.heap.size) := HL7.out.own_lt
            have HU2 : Hid (u1.ownBlock ≠ some w.heap.size) := by
              intro e
              rcases HC.out.1.2 with e2 | ⟨q, e2, hq⟩
              · rw [e2] at e; exact HUN.out e
              · rw [e2] at e; simp only [Option.some.injEq] at e; have := HSZ.out; omega
            have HLE : Hid ((L ++ S k).length + 35 ^ d ≤ 1000000000) := by
              have h1 := HBD.out k
              have h2 := HPW.out
              have h3 : (k + 1) * 35 ^ d ≤ 35 * 35 ^ d := Nat.mul_le_mul_right _ (by omega)
              rw [Nat.succ_mul] at h3
              unfold Hid
              rw [List.length_append]; omega
            have HRS : Hid (risesI (now ++ [(k : Int)]) xs.length) := rises_snoc HRI.out hlt (by rw [HFR.out]; exact hk0)
            go_region_held3 (fun w' => w'.cell? ⟨w.heap.size, 0, none⟩ = some (.int .i64 v) ∧ w'.cell? ⟨w.heap.size, 1, none⟩ = some (.slice (some ⟨b1, o1, none⟩) xs.length c)) (first | exact HKEEP.out | exact (HR7.out.below (HB8.out.alloc HB8.out.size _)).c2 | exact (HR7.out.below (below_alloc _ _)).c2 | exact (HR7.out.below (below_up (below_drew _) (below_alloc _ _))).c2 | exact (HR7.out.below (below_up (below_alloc _ _) (below_drew _))).c2) (first
              | (go_at_call 69
                 refine (clone_any _ base now _ (HN7.out.below (by (repeat' (first | (with_reducible exact Below.refl _ _) | (with_reducible assumption) | (with_reducible refine below_drewN ?_ _) | (with_reducible refine Below.drew ?_) | (with_reducible refine Below.alloc ?_ ?_ _) | (with_reducible refine Below.setCell ?_ ?_ _) | go_size)))) (by omega)).mono ?_
                 rintro e w8 ⟨r, rfl, hr, hb⟩
                 have HB8 : Hid (Below w7.heap.size w7 w8) := below_up (by (repeat' (first | (with_reducible exact Below.refl _ _) | (with_reducible assumption) | (with_reducible refine below_drewN ?_ _) | (with_reducible refine Below.drew ?_) | (with_reducible refine Below.alloc ?_ ?_ _) | (with_reducible refine Below.setCell ?_ ?_ _) | go_size))) hb
                 have HO8 : Hid (w8.ownsRow w7.heap.size 2 1 r now.length (now.map (Value.int .i64))) := own_base hr (by simp)
                 replace HKEEP := Lib.hid (HR7.out.below HB8.out).c2
                 have hs8 := HB8.out.size
                 have HBP := Lib.hid hb
                 clear hb hr)
              | (refine step_append_lies _ (by rfl) _ _ 39 (by rfl) w7.heap.size 2 ni0 (.int .i64 0) 1 8 Try.underlying39 hni hni0 hni1 hni2 rfl (by decide) _ _ _ (by rfl) (HO8.out.alloc _) ⟨w8.heap.size, 0, none⟩ 1 1 [.int .i64 k] (by rfl) rfl (cells_new _ _ _) (by simp [Value.oneCell']) (by omega) (by unfold maxLen; omega) (by omega) (by simp; omega) (w8.heap.size + 1) (by simp) ?_
                 intro g cap w9 hown9 hg9 hat9 hlt9
                 have HO9 : Hid (Ro w9 w7.heap.size (.slice (some ⟨g, 0, none⟩) (now.length + 1) cap) (now ++ [(k : Int)])) := by { unfold Hid Ro; rw [List.length_append, List.map_append]; exact hown9 }
                 have HB9 : Hid (Below w7.heap.size w7 w9) := (HB8.out.alloc HB8.out.size _).grown hg9 (by simp; omega) (own_block HO8.out)
                 have hgb := (hown9.lt g rfl).1
                 replace HKEEP := Lib.hid (HR7.out.below HB9.out).c2
                 clear hown9 hg9 hat9)
              | (refine step_append_lies _ (by rfl) _ _ 39 (by rfl) w7.heap.size 2 ni0 (.int .i64 0) 1 8 Try.underlying39 hni hni0 hni1 hni2 rfl (by decide) _ _ _ (by rfl) HO8.out ⟨w7.heap.size, 0, none⟩ 1 1 [.int .i64 k] (by rfl) rfl (cells_old HBP.out (by first | (simp; done) | omega) (cells_new w7 _ _)) (by simp [Value.oneCell']) (by omega) (by unfold maxLen; omega) (by omega) (by omega) w8.heap.size rfl ?_
                 intro g cap w9 hown9 hg9 hat9 hlt9
                 have HO9 : Hid (Ro w9 w7.heap.size (.slice (some ⟨g, 0, none⟩) (now.length + 1) cap) (now ++ [(k : Int)])) := by { unfold Hid Ro; rw [List.length_append, List.map_append]; exact hown9 }
                 have HB9 : Hid (Below w7.heap.size w7 w9) := HB8.out.grown hg9 (by omega) (own_block HO8.out)
                 have hgb := (hown9.lt g rfl).1
                 replace HKEEP := Lib.hid (HR7.out.below HB9.out).c2
                 clear hown9 hg9 hat9)
              | (go_at_call 90
                 refine (HIH.out K base (L ++ S k) (now ++ [(k : Int)]) u1 (.slice (some ⟨g, 0, none⟩) (now.length + 1) cap) _ (by rw [HKD.out, List.length_append]; simp; omega) hK5 (Nat.le_trans (by omega) HB9.out.size) (HA7.out.below HB9.out) HAB.out (HL7.out.below HB9.out) (own_base HO9.out (by omega)) HRS.out (fun b e e2 => by have := (HU1.out b e2).2; simp only [Value.ownBlock, Option.some.injEq] at e; omega) HLE.out).mono ?_
                 rintro e w10 ⟨u2, rfl, hL2, hG2⟩
                 have HL2 := Lib.hid hL2; have HG2 := Lib.hid hG2
                 replace HKEEP := Lib.hid ((HR7.out.below HB9.out).grown hG2.1 HU2.out).c2
                 clear hL2 hG2))
            all_goals
              go_wp2
              go_roundw
              case rel => exact ⟨k + 1, by omega, by omega, by go_num, ((HC.out.1.below HB7.out).below HB9.out).join HG2.out, by rw [HSTk.out, if_pos ⟨hk0, hok⟩, ← List.append_assoc]; exact HL2.out⟩
              case measure => simp [intOf]; omega
        · obtain rfl : k = xs.length := by omega
          go_wp2
          go_ret
          exact ⟨_, rfl, by rw [HD.out]; exact HC.out.2, by rw [← hWo] at HC; exact Since.ofAlloc HC.out.1⟩

end Go.Proofs.Ytgbkonnmjmlalaa

/- Rows of numbers that a call makes and writes; conditions: none. -/
namespace Go.Proofs.Ytgbkonnmjmlalaa
open Go.RowKit

def icells (n : Nat) (F : Nat → Int) : Array Value := ((List.range n).map fun i => Value.int .i64 (F i)).toArray
theorem icells_size (n : Nat) (F : Nat → Int) : (icells n F).size = n := by simp [icells]
theorem icells_get {n i : Nat} (F : Nat → Int) (h : i < n) : (icells n F)[i]? = some (.int .i64 (F i)) := by simp [icells, h]
theorem icells_set (n i : Nat) (F : Nat → Int) (v : Int) : (icells n F).setIfInBounds i (.int .i64 v) = icells n (upd F i v) := by
  apply Array.ext_getElem?
  intro j
  rw [Array.getElem?_setIfInBounds, icells_size]
  by_cases h : i = j
  · subst h
    rw [if_pos rfl]
    by_cases hi : i < n
    · rw [if_pos hi, icells_get _ hi]; simp [upd]
    · rw [if_neg hi, Array.getElem?_eq_none (by rw [icells_size]; omega)]
  · rw [if_neg h]
    by_cases hj : j < n
    · rw [icells_get _ hj, icells_get _ hj, upd, if_neg (fun e => h e.symm)]
    · rw [Array.getElem?_eq_none (by rw [icells_size]; omega), Array.getElem?_eq_none (by rw [icells_size]; omega)]
/-- Block g holds the n numbers F 0, F 1, .. -/
def Va (w : World) (g n : Nat) (F : Nat → Int) : Prop := Row w g 2 (icells n F)
theorem Va.lt {w : World} {g n : Nat} {F : Nat → Int} (h : Va w g n F) : g < w.heap.size := Row.lt h
theorem Va.below {w w' : World} {g n : Nat} {F : Nat → Int} (h : Va w g n F) (hb : Below w.heap.size w w') : Va w' g n F := Row.below h hb
theorem Va.cell {w : World} {g n : Nat} {F : Nat → Int} (h : Va w g n F) {i : Nat} (hi : i < n) : w.cell? ⟨g, i, none⟩ = some (.int .i64 (F i)) := (Row.cell h i).trans (icells_get F hi)
theorem Va.frozen {w : World} {g n : Nat} {F : Nat → Int} (h : Va w g n F) (i : Nat) : w.frozen? ⟨g, i, none⟩ = false := Row.frozen h i
theorem Va.set {w : World} {g n : Nat} {F : Nat → Int} (h : Va w g n F) (i : Nat) (v : Int) : Va (w.setCell ⟨g, i, none⟩ (.int .i64 v)) g n (upd F i v) := by
  have := Row.set h i (.int .i64 v)
  rw [icells_set] at this
  exact this
theorem Va.ext {w : World} {g n : Nat} {F G : Nat → Int} (h : Va w g n F) (e : ∀ i, i < n → F i = G i) : Va w g n G := by
  have : icells n F = icells n G := by unfold icells; congr 1; exact List.map_congr_left fun i hi => by rw [e i (List.mem_range.1 hi)]
  unfold Va at *; rwa [← this]
theorem Va.make {w : World} {base g n : Nat} (h : w.ownsRow base 2 1 (.slice (some ⟨g, 0, none⟩) n n) n (madeCells (Value.cells (.int .i64 0)) (n * 1)).toList) : Va w g n (fun _ => 0) := by
  rcases h.2 with ⟨h', _⟩ | ⟨g', cap, cur, h', _, hg, _, _, hcs, htk⟩
  · cases h'
  · simp only [Value.slice.injEq, Option.some.injEq, Addr.mk.injEq, and_true, true_and] at h'
    obtain ⟨rfl, rfl⟩ := h'
    have : cur = icells n (fun _ => 0) := by
      apply Array.ext'
      rw [← List.take_of_length_le (l := cur.toList) (i := n * 1) (by simp [hcs]), htk]
      simp [icells, madeCells, Value.cells, Nat.mod_one]
    rw [this] at hg
    exact hg
theorem Va.own {w : World} {base g n : Nat} {F : Nat → Int} (h : Va w g n F) (hb : base ≤ g) (hn : n ≤ maxLen) : w.ownsRow base 2 1 (.slice (some ⟨g, 0, none⟩) n n) n (((List.range n).map F).map (Value.int .i64)) := by
  refine ⟨by simp, .inr ⟨g, n, icells n F, rfl, hb, h, Nat.le_refl _, hn, by simp [icells], ?_⟩⟩
  rw [List.take_of_length_le (by simp [icells])]
  simp [icells]

end Go.Proofs.Ytgbkonnmjmlalaa

/- Plain laws of the renumberings of full systems: both searches find the same ones, and there are fewer than a million. Conditions: none. -/
namespace Go.Proofs.Ytgbkonnmjmlalaa

/-- third points of n points, each pair in just one block -/
structure Sts (n : Nat) (T : Nat → Nat → Nat) : Prop where
  rng : ∀ a b, a < n → b < n → a ≠ b → T a b < n ∧ T a b ≠ a ∧ T a b ≠ b
  sym : ∀ a b, T a b = T b a
  inv : ∀ a b, a < n → b < n → a ≠ b → T a (T a b) = b
def im (L : List Int) (k : Nat) : Nat := (nthI L k).toNat
noncomputable def usedB (L : List Int) (i : Nat) : Bool := open Classical in decide (∃ k, k < L.length ∧ im L k = i)
theorem usedB_iff {L : List Int} {i : Nat} : usedB L i = true ↔ ∃ k, k < L.length ∧ im L k = i := by unfold usedB; simp
theorem usedB_not {L : List Int} {i : Nat} : usedB L i = false ↔ ∀ k, k < L.length → im L k ≠ i := by unfold usedB; simp
noncomputable def fitI (T1 T2 : Nat → Nat → Nat) (L : List Int) (i : Nat) : Bool := open Classical in decide (usedB L i = false ∧ ∀ a, a < L.length → T1 a L.length < L.length → T2 (im L a) i = im L (T1 a L.length))
noncomputable def fitS (T1 T2 : Nat → Nat → Nat) (L : List Int) (i : Nat) : Bool := open Classical in decide (usedB L i = false ∧ ∀ q, q < L.length → (T1 L.length q < L.length → im L (T1 L.length q) = T2 i (im L q)) ∧ (¬ T1 L.length q < L.length → usedB L (T2 i (im L q)) = false))
theorem fitI_iff {T1 T2 : Nat → Nat → Nat} {L : List Int} {i : Nat} : fitI T1 T2 L i = true ↔ usedB L i = false ∧ ∀ a, a < L.length → T1 a L.length < L.length → T2 (im L a) i = im L (T1 a L.length) := by unfold fitI; simp
theorem fitS_iff {T1 T2 : Nat → Nat → Nat} {L : List Int} {i : Nat} : fitS T1 T2 L i = true ↔ usedB L i = false ∧ ∀ q, q < L.length → (T1 L.length q < L.length → im L (T1 L.length q) = T2 i (im L q)) ∧ (¬ T1 L.length q < L.length → usedB L (T2 i (im L q)) = false) := by unfold fitS; simp
/-- all lists that go on from one -/
def enumL (n : Nat) (ok : List Int → Nat → Bool) : Nat → List Int → List (List Int)
  | 0, L => [L]
  | d + 1, L => loopL (fun i => enumL n ok d (L ++ [(i : Int)])) (ok L) 0 n
theorem loop_mem {f : Nat → List (List Int)} {p : Nat → Bool} {a : Nat} : ∀ {m : Nat} {l : List Int}, l ∈ loopL f p a m → ∃ i, a ≤ i ∧ i < m ∧ p i = true ∧ l ∈ f i := by
  intro m
  induction m with
  | zero => intro l h; simp [loopL] at h
  | succ m ih =>
    intro l h
    rw [loopL, List.mem_append] at h
    rcases h with h | h
    · obtain ⟨i, h1, h2, h3⟩ := ih h; exact ⟨i, h1, by omega, h3⟩
    · by_cases e : a ≤ m ∧ p m = true
      · rw [if_pos e] at h; exact ⟨m, e.1, by omega, e.2, h⟩
      · rw [if_neg e] at h; simp at h
theorem loop_same {f g : Nat → List (List Int)} {p q : Nat → Bool} {n : Nat} (h : ∀ i, i < n → (p i = true → q i = true ∧ f i = g i) ∧ (p i = false → q i = true → g i = [])) : ∀ m, m ≤ n → loopL f p 0 m = loopL g q 0 m := by
  intro m
  induction m with
  | zero => intro _; rfl
  | succ m ih =>
    intro hm
    rw [loopL, loopL, ih (by omega)]
    congr 1
    obtain ⟨h1, h2⟩ := h m (by omega)
    cases hp : p m
    · rw [if_neg (by simp)]
      cases hq : q m
      · rw [if_neg (by simp)]
      · rw [if_pos ⟨Nat.zero_le _, rfl⟩, h2 hp hq]
    · obtain ⟨hq, e⟩ := h1 hp
      rw [if_pos ⟨Nat.zero_le _, rfl⟩, if_pos ⟨Nat.zero_le _, hq⟩, e]
theorem im_app {L : List Int} {x : Int} {k : Nat} (h : k < L.length) : im (L ++ [x]) k = im L k := by unfold im; rw [nthI_app h]
theorem im_last (L : List Int) (i : Nat) : im (L ++ [(i : Int)]) L.length = i := by unfold im; rw [nthI_last]; rfl
/-- a beginning of a renumbering -/
structure Val (n : Nat) (T1 T2 : Nat → Nat → Nat) (L : List Int) : Prop where
  len : L.length ≤ n
  rng : ∀ k, k < L.length → im L k < n ∧ nthI L k = (im L k : Int)
  inj : ∀ j k, j < L.length → k < L.length → im L j = im L k → j = k
  hom : ∀ a b, a < L.length → b < L.length → a ≠ b → T1 a b < L.length → T2 (im L a) (im L b) = im L (T1 a b)
theorem val_nil (n : Nat) (T1 T2 : Nat → Nat → Nat) : Val n T1 T2 [] := ⟨by simp, fun k hk => by simp at hk, fun j k hj => by simp at hj, fun a b ha => by simp at ha⟩
theorem val_step {n : Nat} {T1 T2 : Nat → Nat → Nat} (h1 : Sts n T1) (h2 : Sts n T2) {L : List Int} {i : Nat} (hv : Val n T1 T2 L) (hl : L.length < n) (hi : i < n) (ok : fitI T1 T2 L i = true) : Val n T1 T2 (L ++ [(i : Int)]) := by
  obtain ⟨hu, hg⟩ := fitI_iff.1 ok
  rw [usedB_not] at hu
  have hlen : (L ++ [(i : Int)]).length = L.length + 1 := by simp
  have hne : ∀ k, k < L.length → im L k ≠ i := hu
  refine ⟨by rw [hlen]; omega, fun k hk => ?_, fun j k hj hk e => ?_, fun a b ha hb hab hT => ?_⟩
  · rw [hlen] at hk
    by_cases e : k = L.length
    · subst e; rw [im_last, nthI_last]; exact ⟨hi, rfl⟩
    · rw [im_app (by omega), nthI_app (by omega)]; exact hv.rng k (by omega)
  · rw [hlen] at hj hk
    by_cases ej : j = L.length <;> by_cases ek : k = L.length
    · omega
    · subst ej; rw [im_last, im_app (by omega)] at e; exact absurd e.symm (hne k (by omega))
    · subst ek; rw [im_last, im_app (by omega)] at e; exact absurd e (hne j (by omega))
    · rw [im_app (by omega), im_app (by omega)] at e; exact hv.inj j k (by omega) (by omega) e
  · rw [hlen] at ha hb hT
    by_cases ea : a = L.length
    · subst ea
      have hbl : b < L.length := by omega
      have hr := h1.rng L.length b hl (by omega) hab
      have hTl : T1 L.length b < L.length := by omega
      rw [im_last, im_app hbl, im_app hTl, h2.sym, h1.sym]
      rw [h1.sym] at hTl
      exact hg b hbl hTl
    · by_cases eb : b = L.length
      · subst eb
        have hal : a < L.length := by omega
        have hr := h1.rng a L.length (by omega) hl hab
        have hTl : T1 a L.length < L.length := by omega
        rw [im_last, im_app hal, im_app hTl]
        exact hg a hal hTl
      · have hal : a < L.length := by omega
        have hbl : b < L.length := by omega
        by_cases eT : T1 a b = L.length
        · rw [im_app hal, im_app hbl, eT, im_last]
          have e1 : T1 a L.length = b := by rw [← eT]; exact h1.inv a b (by omega) (by omega) hab
          have e2 := hg a hal (by rw [e1]; exact hbl)
          rw [e1] at e2
          rw [← e2]
          exact h2.inv _ _ (hv.rng a hal).1 hi (hne a hal)
        · rw [im_app hal, im_app hbl, im_app (by omega)]
          exact hv.hom a b hal hbl hab (by omega)
theorem enum_val {n : Nat} {T1 T2 : Nat → Nat → Nat} (h1 : Sts n T1) (h2 : Sts n T2) : ∀ d L, Val n T1 T2 L → L.length + d = n → ∀ M ∈ enumL n (fitI T1 T2) d L, Val n T1 T2 M ∧ M.length = n ∧ ∀ k, k < L.length → nthI M k = nthI L k := by
  intro d
  induction d with
  | zero => intro L hv hd M hM; rw [enumL, List.mem_singleton] at hM; subst hM; exact ⟨hv, by omega, fun _ _ => rfl⟩
  | succ d ih =>
    intro L hv hd M hM
    rw [enumL] at hM
    obtain ⟨i, _, hi, ok, hM⟩ := loop_mem hM
    obtain ⟨k1, k2, k3⟩ := ih _ (val_step h1 h2 hv (by omega) hi ok) (by simp; omega) M hM
    exact ⟨k1, k2, fun k hk => by rw [k3 k (by simp; omega), nthI_app hk]⟩
theorem enum_at {n : Nat} {ok : List Int → Nat → Bool} : ∀ d L, ∀ M ∈ enumL n ok d L, M.length = L.length + d ∧ ∀ k, k < L.length → nthI M k = nthI L k := by
  intro d
  induction d with
  | zero => intro L M hM; rw [enumL, List.mem_singleton] at hM; subst hM; exact ⟨by omega, fun _ _ => rfl⟩
  | succ d ih =>
    intro L M hM
    rw [enumL] at hM
    obtain ⟨i, _, hi, _, hM⟩ := loop_mem hM
    obtain ⟨k2, k3⟩ := ih _ M hM
    rw [List.length_append, List.length_singleton] at k2
    exact ⟨by omega, fun k hk => by rw [k3 k (by simp; omega), nthI_app hk]⟩
theorem enum_same {n : Nat} {T1 T2 : Nat → Nat → Nat} (h1 : Sts n T1) (h2 : Sts n T2) : ∀ d L, Val n T1 T2 L → L.length + d = n → enumL n (fitS T1 T2) d L = enumL n (fitI T1 T2) d L := by
  intro d
  induction d with
  | zero => intro L _ _; rfl
  | succ d ih =>
    intro L hv hd
    rw [enumL, enumL]
    refine loop_same (n := n) (fun i hi => ⟨fun hs => ?_, fun hs hI => ?_⟩) n (Nat.le_refl _)
    · obtain ⟨hu, hg⟩ := fitS_iff.1 hs
      have hI : fitI T1 T2 L i = true := fitI_iff.2 ⟨hu, fun a ha hT => by
        rw [h1.sym] at hT ⊢
        rw [(hg a ha).1 hT, h2.sym]⟩
      exact ⟨hI, ih _ (val_step h1 h2 hv (by omega) hi hI) (by simp; omega)⟩
    · obtain ⟨hu, hg⟩ := fitI_iff.1 hI
      rw [List.eq_nil_iff_forall_not_mem]
      intro M hM
      obtain ⟨k1, k2, k3⟩ := enum_val h1 h2 d _ (val_step h1 h2 hv (by omega) hi hI) (by simp; omega) M hM
      rw [← Bool.not_eq_true, fitS_iff] at hs
      apply hs
      refine ⟨hu, fun q hq => ⟨fun hT => ?_, fun hT => ?_⟩⟩
      · have := hg q hq (by rw [h1.sym]; exact hT)
        rw [h1.sym L.length q, ← this, h2.sym]
      · rw [usedB_not]
        intro j hj e
        have hr := h1.rng L.length q (by omega) (by omega) (by omega)
        have e1 : im M L.length = i := by unfold im; rw [k3 _ (by simp), nthI_last]; rfl
        have e2 : ∀ k, k < L.length → im M k = im L k := fun k hk => by unfold im; rw [k3 k (by simp; omega), nthI_app hk]
        have hh := k1.hom L.length q (by omega) (by omega) (by omega) (by omega)
        rw [e1, e2 q hq, ← e, ← e2 j hj] at hh
        have := k1.inj j (T1 L.length q) (by omega) (by omega) hh
        omega
theorem loop_nodup {f : Nat → List (List Int)} {p : Nat → Bool} (h1 : ∀ i, (f i).Nodup) (h2 : ∀ i j l, l ∈ f i → l ∈ f j → i = j) : ∀ m, (loopL f p 0 m).Nodup := by
  intro m
  induction m with
  | zero => simp [loopL]
  | succ m ih =>
    rw [loopL]
    split
    · rw [List.nodup_append]
      refine ⟨ih, h1 m, ?_⟩
      intro a ha b hb e
      subst e
      obtain ⟨i, _, hi, _, h⟩ := loop_mem ha
      have := h2 i m a h hb
      omega
    · rw [List.append_nil]; exact ih
theorem enum_nodup {n : Nat} {ok : List Int → Nat → Bool} : ∀ d L, (enumL n ok d L).Nodup := by
  intro d
  induction d with
  | zero => intro L; simp [enumL]
  | succ d ih =>
    intro L
    rw [enumL]
    refine loop_nodup (fun i => ih _) (fun i j l h1 h2 => ?_) n
    have e1 := (enum_at d _ l h1).2 L.length (by simp)
    have e2 := (enum_at d _ l h2).2 L.length (by simp)
    rw [nthI_last] at e1 e2
    omega
theorem nodup_lt : ∀ (N : Nat) (l : List Nat), l.Nodup → (∀ x ∈ l, x < N) → l.length ≤ N := by
  intro N
  induction N with
  | zero =>
    intro l _ h
    cases l with
    | nil => simp
    | cons x l => have := h x (by simp); omega
  | succ N ih =>
    intro l hn h
    have h2 := ih (l.erase N) (hn.erase N) (fun x hx => by
      have h3 := (hn.mem_erase_iff).1 hx
      have := h x h3.2
      have := h3.1
      omega)
    have := List.length_erase_le (a := N) (l := l)
    by_cases hm : N ∈ l
    · rw [List.length_erase_of_mem hm] at h2
      omega
    · rw [List.erase_of_not_mem hm] at h2; omega

/-! Few points give all of a full system. -/
theorem sumN_swap (f : Nat → Nat → Nat) (n : Nat) : ∀ m, sumN (fun i => sumN (f i) n) m = sumN (fun j => sumN (fun i => f i j) m) n := by
  intro m
  induction m with
  | zero =>
    have : sumN (fun j => sumN (fun i => f i j) 0) n = sumN (fun _ => 0) n := sumN_congr n fun j _ => rfl
    rw [this, sumN_const]; simp [sumN]
  | succ m ih =>
    rw [sumN, ih, ← sumN_add]
    exact sumN_congr n fun j _ => rfl
theorem sumN_at (a n : Nat) (P : Bool) : sumN (fun j => if (decide (j = a) && P) = true then 1 else 0) n = if a < n ∧ P = true then 1 else 0 := by
  rw [sumN_cnt]
  induction n with
  | zero => simp [cntF]
  | succ n ih =>
    rw [cntF, ih]
    by_cases e : n = a
    · subst e
      cases P <;> simp
    · by_cases hl : a < n
      · have : a < n + 1 := by omega
        simp [e, hl, this]
      · have : ¬ a < n + 1 := by omega
        simp [e, hl, this]
theorem cnt_turn {n x : Nat} {T : Nat → Nat → Nat} (hT : Sts n T) (hx : x < n) {f : Nat → Bool} (hf : f x = false) : cntF (fun b => decide (b ≠ x) && f (T x b)) n = cntF f n := by
  rw [← sumN_cnt, ← sumN_cnt]
  have e1 : ∀ b, b < n → (if (decide (b ≠ x) && f (T x b)) = true then 1 else 0) = sumN (fun a => if (decide (a = T x b) && (decide (b ≠ x) && f (T x b))) = true then 1 else 0) n := by
    intro b hb
    rw [sumN_at]
    by_cases e : b = x
    · simp [e]
    · have := (hT.rng x b hx hb (Ne.symm e)).1
      simp [e, this]
  rw [sumN_congr n e1, sumN_swap]
  refine sumN_congr n fun a ha => ?_
  by_cases e : a = x
  · subst e
    have : ∀ b, b < n → (if (decide (a = T a b) && (decide (b ≠ a) && f (T a b))) = true then 1 else 0) = (fun _ => 0) b := by
      intro b hb
      by_cases e2 : b = a
      · simp [e2]
      · have := (hT.rng a b hx hb (Ne.symm e2)).2.1
        simp [Ne.symm this]
    rw [sumN_congr n this, sumN_const, hf]; simp
  · have hr := hT.rng x a hx ha (Ne.symm e)
    have : ∀ b, b < n → (if (decide (a = T x b) && (decide (b ≠ x) && f (T x b))) = true then 1 else 0) = (if (decide (b = T x a) && f a) = true then 1 else 0) := by
      intro b hb
      by_cases e2 : a = T x b
      · by_cases e3 : b = x
        · subst e3
          have hne : ¬ b = T b a := fun h => hr.2.1 h.symm
          simp [hne]
        · have e4 : b = T x a := by rw [e2]; exact (hT.inv x b hx hb (Ne.symm e3)).symm
          rw [← e2]
          simp [e3, ← e4]
      · have e4 : ¬ b = T x a := fun h => e2 (by rw [h]; exact (hT.inv x a hx ha (Ne.symm e)).symm)
        simp [e2, e4]
    rw [sumN_congr n this, sumN_at]
    simp [hr.1]
def Cls (n : Nat) (T : Nat → Nat → Nat) (S : Nat → Bool) : Prop := ∀ a b, a < n → b < n → a ≠ b → S a = true → S b = true → S (T a b) = true
def Gen (n : Nat) (T : Nat → Nat → Nat) (gs : List Nat) (c : Nat) : Prop := ∀ S, Cls n T S → (∀ g ∈ gs, S g = true) → c ≤ cntF S n
theorem cntF_mono {f g : Nat → Bool} (n : Nat) (h : ∀ j, j < n → f j = true → g j = true) : cntF f n ≤ cntF g n := by
  induction n with
  | zero => simp [cntF]
  | succ n ih =>
    have h1 := ih (fun j hj => h j (by omega)); have h2 := h n (by omega)
    rw [cntF, cntF]
    cases hf : f n <;> cases hg : g n <;> simp_all <;> omega
noncomputable def hull (n : Nat) (T : Nat → Nat → Nat) (gs : List Nat) (a : Nat) : Bool := open Classical in decide (∀ S, Cls n T S → (∀ g ∈ gs, S g = true) → S a = true)
theorem hull_iff {n : Nat} {T : Nat → Nat → Nat} {gs : List Nat} {a : Nat} : hull n T gs a = true ↔ ∀ S, Cls n T S → (∀ g ∈ gs, S g = true) → S a = true := by unfold hull; simp
theorem gen_step {n c : Nat} {T : Nat → Nat → Nat} (hT : Sts n T) (hn : 0 < n) {gs : List Nat} (h : Gen n T gs c) : ∃ x, x < n ∧ Gen n T (x :: gs) (min n (2 * c + 1)) := by
  have hcl : Cls n T (hull n T gs) := by
    intro a b ha hb hab h1 h2
    rw [hull_iff] at *
    intro S hS hg
    exact hS a b ha hb hab (h1 S hS hg) (h2 S hS hg)
  have hgs : ∀ g ∈ gs, hull n T gs g = true := fun g hg => hull_iff.2 fun S _ hS => hS g hg
  have hc := h _ hcl hgs
  by_cases hall : ∀ a, a < n → hull n T gs a = true
  · refine ⟨0, hn, fun S hS hg => ?_⟩
    have : cntF S n = n := (cntF_all n).2 fun a ha => hull_iff.1 (hall a ha) S hS (fun g hg' => hg g (by simp [hg']))
    omega
  · simp only [Classical.not_forall] at hall
    obtain ⟨x, hx, hnx⟩ := hall
    have hfx : hull n T gs x = false := by simpa using hnx
    refine ⟨x, hx, fun S hS hg => ?_⟩
    have hSx := hg x (by simp)
    have hsub : ∀ a, hull n T gs a = true → S a = true := fun a ha => hull_iff.1 ha S hS (fun g hg' => hg g (by simp [hg']))
    have e1 := cnt_turn hT hx hfx
    have hor1 := cntF_or (f := fun b => decide (b = x)) (g := fun b => decide (b ≠ x) && hull n T gs (T x b)) (h := fun b => decide (b = x) || (decide (b ≠ x) && hull n T gs (T x b))) n (fun j _ => ⟨rfl, by by_cases e : j = x <;> simp [e]⟩)
    have hor2 := cntF_or (f := hull n T gs) (g := fun b => decide (b = x) || (decide (b ≠ x) && hull n T gs (T x b))) (h := fun b => hull n T gs b || (decide (b = x) || (decide (b ≠ x) && hull n T gs (T x b)))) n (fun j hj => ⟨rfl, by
      by_cases e : j = x
      · subst e; simp [hfx]
      · cases hj1 : hull n T gs j
        · simp
        · cases hj2 : hull n T gs (T x j)
          · simp [e, hj2]
          · exfalso
            have hr := hT.rng x j hx hj (Ne.symm e)
            have := hcl j (T x j) hj hr.1 (Ne.symm hr.2.2) hj1 hj2
            rw [hT.sym x j, hT.inv j x hj hx e] at this
            rw [hfx] at this; cases this⟩)
    have hmono := cntF_mono (f := fun b => hull n T gs b || (decide (b = x) || (decide (b ≠ x) && hull n T gs (T x b)))) (g := S) n (fun j hj h => by
      simp only [Bool.or_eq_true, Bool.and_eq_true, decide_eq_true_eq] at h
      rcases h with h | h | ⟨h1, h2⟩
      · exact hsub j h
      · rw [h]; exact hSx
      · have hr := hT.rng x j hx hj (Ne.symm h1)
        have := hS x (T x j) hx hr.1 (Ne.symm hr.2.1) hSx (hsub _ h2)
        rw [hT.inv x j hx hj (Ne.symm h1)] at this
        exact this)
    have e2 := cntF_eq x n hx
    omega
theorem gen_four {n : Nat} {T : Nat → Nat → Nat} (hT : Sts n T) (hn : 0 < n) (h15 : n ≤ 15) : ∃ a b c d, a < n ∧ b < n ∧ c < n ∧ d < n ∧ ∀ S, Cls n T S → S a = true → S b = true → S c = true → S d = true → ∀ k, k < n → S k = true := by
  obtain ⟨a, ha, h1⟩ := gen_step hT hn (gs := []) (c := 0) (fun S _ _ => Nat.zero_le _)
  obtain ⟨b, hb, h2⟩ := gen_step hT hn h1
  obtain ⟨c, hc, h3⟩ := gen_step hT hn h2
  obtain ⟨d, hd, h4⟩ := gen_step hT hn h3
  refine ⟨a, b, c, d, ha, hb, hc, hd, fun S hS sa sb sc sd => ?_⟩
  have h5 := h4 S hS (by intro g hg; simp at hg; rcases hg with rfl | rfl | rfl | rfl <;> assumption)
  have := cntF_le S n
  exact (cntF_all n).1 (by omega)
theorem autos_few {n : Nat} {T1 T2 : Nat → Nat → Nat} (h1 : Sts n T1) (h2 : Sts n T2) (hn : 0 < n) (h15 : n ≤ 15) : (enumL n (fitI T1 T2) n []).length ≤ 50625 := by
  obtain ⟨a, b, c, d, ha, hb, hc, hd, hg⟩ := gen_four h1 hn h15
  have hv := enum_val h1 h2 n [] (val_nil n T1 T2) (by simp)
  have hk : ((enumL n (fitI T1 T2) n []).map fun M => ((im M a * 15 + im M b) * 15 + im M c) * 15 + im M d).Nodup := by
    rw [List.nodup_iff_pairwise_ne, List.pairwise_map]
    have hnd := enum_nodup (n := n) (ok := fitI T1 T2) n []
    rw [List.nodup_iff_pairwise_ne] at hnd
    refine List.Pairwise.imp_of_mem (fun {M M'} hM hM' hne e => hne ?_) hnd
    obtain ⟨v1, l1, _⟩ := hv M hM
    obtain ⟨v2, l2, _⟩ := hv M' hM'
    have r : ∀ k, k < n → im M k < 15 ∧ im M' k < 15 := fun k hk => ⟨Nat.lt_of_lt_of_le (v1.rng k (by omega)).1 h15, Nat.lt_of_lt_of_le (v2.rng k (by omega)).1 h15⟩
    have ra := r a ha; have rb := r b hb; have rc := r c hc; have rd := r d hd
    have hS : Cls n T1 (fun k => decide (im M k = im M' k)) := by
      intro p q hp hq hpq s1 s2
      simp only [decide_eq_true_eq] at *
      have hr := (h1.rng p q hp hq hpq).1
      rw [← v1.hom p q (by omega) (by omega) hpq (by omega), ← v2.hom p q (by omega) (by omega) hpq (by omega), s1, s2]
    have hall := hg _ hS (by simp; omega) (by simp; omega) (by simp; omega) (by simp; omega)
    simp only [decide_eq_true_eq] at hall
    apply List.ext_getElem (by omega)
    intro k hk1 hk2
    have e1 := (v1.rng k hk1).2
    have e2 := (v2.rng k hk2).2
    have e3 := hall k (by omega)
    unfold nthI at e1 e2
    simp only [List.getD_eq_getElem?_getD, List.getElem?_eq_getElem hk1, List.getElem?_eq_getElem hk2, Option.getD_some] at e1 e2
    rw [e1, e2, e3]
  have h3 := nodup_lt 50625 _ hk (by
    intro x hx
    obtain ⟨M, hM, rfl⟩ := List.mem_map.1 hx
    obtain ⟨v1, l1, _⟩ := hv M hM
    have r : ∀ k, k < n → im M k < 15 := fun k hk => Nat.lt_of_lt_of_le (v1.rng k (by omega)).1 h15
    have ra := r a ha; have rb := r b hb; have rc := r c hc; have rd := r d hd
    omega)
  rwa [List.length_map] at h3

end Go.Proofs.Ytgbkonnmjmlalaa

/- Plain laws of sets of points by their bits, and of closed sets. Conditions: none. -/
namespace Go.Proofs.Ytgbkonnmjmlalaa

/-- the points of the first k numbers of a list -/
def bitsL (ls : List Int) : Nat → Nat
  | 0 => 0
  | k + 1 => bitsL ls k ||| 2 ^ (nthI ls k).toNat
theorem bitsL_bit (ls : List Int) (j : Nat) : ∀ k, (bitsL ls k).testBit j = true ↔ ∃ i, i < k ∧ (nthI ls i).toNat = j := by
  intro k
  induction k with
  | zero => simp [bitsL]
  | succ k ih =>
    rw [bitsL, Nat.testBit_or, Bool.or_eq_true, ih, Nat.testBit_two_pow]
    simp only [decide_eq_true_eq]
    constructor
    · rintro (⟨i, h1, h2⟩ | h)
      · exact ⟨i, by omega, h2⟩
      · exact ⟨k, by omega, h⟩
    · rintro ⟨i, h1, h2⟩
      by_cases e : i = k
      · subst e; exact .inr h2
      · exact .inl ⟨i, by omega, h2⟩
theorem bitsL_lt {ls : List Int} {n : Nat} (h : ∀ k, k < ls.length → (nthI ls k).toNat < n) : ∀ k, k ≤ ls.length → bitsL ls k < 2 ^ n := by
  intro k
  induction k with
  | zero => intro _; simp [bitsL]; exact Nat.two_pow_pos n
  | succ k ih =>
    intro hk
    exact Nat.or_lt_two_pow (ih (by omega)) (Nat.pow_lt_pow_right (by omega) (h k (by omega)))
/-- is a set closed -/
def clS (xs : List Blk) (s : Nat) : Prop := ∀ p q : Nat, p < 15 → q < 15 → p ≠ q → s.testBit p = true → s.testBit q = true → third xs p q = -1 ∨ s.testBit (third xs p q).toNat = true
noncomputable def clB (xs : List Blk) (s : Nat) : Bool := open Classical in decide (clS xs s)
theorem clB_true {xs : List Blk} {s : Nat} (h : clS xs s) : clB xs s = true := by unfold clB; simpa using h
theorem clB_false {xs : List Blk} {s : Nat} (h : ¬ clS xs s) : clB xs s = false := by unfold clB; simpa using h
theorem clB_iff {xs : List Blk} {s : Nat} : clB xs s = true ↔ clS xs s := by unfold clB; simp

theorem cntF_at (a n : Nat) (f : Nat → Bool) : cntF (fun j => decide (j = a) && f j) n = if a < n ∧ f a = true then 1 else 0 := by
  induction n with
  | zero => simp [cntF]
  | succ n ih =>
    rw [cntF, ih]
    by_cases e : n = a
    · subst e
      cases h : f n <;> simp [h]
    · by_cases hl : a < n
      · have : a < n + 1 := by omega
        cases h : f a <;> simp [e, hl, h, this]
      · have : ¬ a < n + 1 := by omega
        simp [e, hl, this]
theorem cnt_blk {b : Blk} (hg : goodB 15 b = true) (s : Nat) : cntF (fun j => (maskB b &&& s).testBit j) 15 = (if s.testBit b.1.toNat = true then 1 else 0) + (if s.testBit b.2.1.toNat = true then 1 else 0) + (if s.testBit b.2.2.toNat = true then 1 else 0) := by
  have h := good_bd hg
  have e : ∀ j, (maskB b &&& s).testBit j = ((decide (j = b.1.toNat) && s.testBit j) || ((decide (j = b.2.1.toNat) && s.testBit j) || (decide (j = b.2.2.toNat) && s.testBit j))) := by
    intro j
    rw [Nat.testBit_and, maskB_bit hg]
    have : hasB b j = (decide (j = b.1.toNat) || (decide (j = b.2.1.toNat) || decide (j = b.2.2.toNat))) := by
      rw [Bool.eq_iff_iff, has_iff]; simp only [Bool.or_eq_true, decide_eq_true_eq]; omega
    rw [this]
    cases s.testBit j <;> simp
  rw [cntF_congr 15 (fun j _ => e j)]
  rw [cntF_or (f := fun j => decide (j = b.1.toNat) && s.testBit j) (g := fun j => (decide (j = b.2.1.toNat) && s.testBit j) || (decide (j = b.2.2.toNat) && s.testBit j)) 15 (fun j _ => ⟨rfl, ?_⟩)]
  · rw [cntF_or (f := fun j => decide (j = b.2.1.toNat) && s.testBit j) (g := fun j => decide (j = b.2.2.toNat) && s.testBit j) 15 (fun j _ => ⟨rfl, ?_⟩)]
    · have h1 : b.1.toNat < 15 := by omega
      have h2 : b.2.1.toNat < 15 := by omega
      have h3 : b.2.2.toNat < 15 := by omega
      rw [cntF_at, cntF_at, cntF_at]
      simp only [h1, h2, h3, true_and]
      omega
    · by_cases e1 : j = b.2.1.toNat
      · have : j ≠ b.2.2.toNat := by omega
        simp [this]
      · simp [e1]
  · by_cases e1 : j = b.1.toNat
    · have h1 : j ≠ b.2.1.toNat := by omega
      have h2 : j ≠ b.2.2.toNat := by omega
      simp [h1, h2]
    · simp [e1]
theorem third_of {v : Int} {xs : List Blk} (hs : isSys v xs) {i : Nat} (hi : i < xs.length) {p q : Int} (hne : p ≠ q) (h1 : hasB (nth xs i) p = true) (h2 : hasB (nth xs i) q = true) : third xs p q = sumB (nth xs i) - p - q := by
  have hg : ∀ j, j < xs.length → goodB 15 (nth xs j) = true := fun j hj => good_mono (hs.2.2.1 j hj).1 hs.1.2
  have hb : bothB (nth xs i) p q = true := by unfold bothB; rw [h1, h2]; rfl
  rcases first_of (P := fun j => bothB (nth xs j) p q) xs.length with h | ⟨k, k1, k2, k3⟩
  · rw [h i hi] at hb; cases hb
  · rw [third_at p q xs k k1 k2 k3]
    by_cases e : k = i
    · rw [e]
    · exfalso
      rcases Nat.lt_or_gt_of_ne e with hlt | hgt
      · have := hs.2.2.2 i hi k hlt
        have := com_two (hg i hi) (hg k k1) hne hb k2
        omega
      · have := hs.2.2.2 k k1 i hgt
        have := com_two (hg k k1) (hg i hi) hne k2 hb
        omega
theorem closed_iff {v : Int} {xs : List Blk} (hs : isSys v xs) (s : Nat) : clS xs s ↔ ∀ i, i < xs.length → cntF (fun j => (maskB (nth xs i) &&& s).testBit j) 15 ≠ 2 := by
  have hg : ∀ j, j < xs.length → goodB 15 (nth xs j) = true := fun j hj => good_mono (hs.2.2.1 j hj).1 hs.1.2
  constructor
  · intro h i hi
    have hb := good_bd (hg i hi)
    rw [cnt_blk (hg i hi)]
    obtain ⟨A, hA⟩ := Int.eq_ofNat_of_zero_le hb.1
    obtain ⟨B, hB⟩ := Int.eq_ofNat_of_zero_le (by omega : 0 ≤ (nth xs i).2.1)
    obtain ⟨C, hC⟩ := Int.eq_ofNat_of_zero_le (by omega : 0 ≤ (nth xs i).2.2)
    have a1 : hasB (nth xs i) A = true := has_iff.2 (.inl hA)
    have a2 : hasB (nth xs i) B = true := has_iff.2 (.inr (.inl hB))
    have a3 : hasB (nth xs i) C = true := has_iff.2 (.inr (.inr hC))
    have e12 := third_of hs hi (p := A) (q := B) (by omega) a1 a2
    have e13 := third_of hs hi (p := A) (q := C) (by omega) a1 a3
    have e23 := third_of hs hi (p := B) (q := C) (by omega) a2 a3
    unfold sumB at e12 e13 e23
    have f12 : third xs A B = C := by omega
    have f13 : third xs A C = B := by omega
    have f23 : third xs B C = A := by omega
    have k12 := h A B (by omega) (by omega) (by omega)
    have k13 := h A C (by omega) (by omega) (by omega)
    have k23 := h B C (by omega) (by omega) (by omega)
    rw [f12] at k12; rw [f13] at k13; rw [f23] at k23
    rw [hA, hB, hC]
    simp only [Int.toNat_natCast] at *
    have n1 : ¬ (C : Int) = -1 := by omega
    have n2 : ¬ (B : Int) = -1 := by omega
    have n3 : ¬ (A : Int) = -1 := by omega
    by_cases hx : s.testBit A = true <;> by_cases hy : s.testBit B = true <;> by_cases hz : s.testBit C = true
    all_goals first
      | (rw [if_pos hx, if_pos hy, if_pos hz]; decide)
      | exact absurd ((k12 hx hy).resolve_left n1) hz
      | exact absurd ((k13 hx hz).resolve_left n2) hy
      | exact absurd ((k23 hy hz).resolve_left n3) hx
      | (simp only [if_neg hx, if_neg hy, if_neg hz, if_pos]; omega)
      | (simp [hx, hy, hz])
  · intro h p q hp hq hne h1 h2
    rcases first_of (P := fun j => bothB (nth xs j) p q) xs.length with hn | ⟨i, k1, k2, k3⟩
    · exact .inl (third_none _ _ xs hn)
    · right
      have hc := h i k1
      rw [cnt_blk (hg i k1)] at hc
      have hb := good_bd (hg i k1)
      rw [third_at p q xs i k1 k2 k3]
      unfold bothB at k2
      simp only [Bool.and_eq_true] at k2
      obtain ⟨m1, m2⟩ := k2
      unfold sumB
      obtain ⟨A, hA⟩ := Int.eq_ofNat_of_zero_le hb.1
      obtain ⟨B, hB⟩ := Int.eq_ofNat_of_zero_le (by omega : 0 ≤ (nth xs i).2.1)
      obtain ⟨C, hC⟩ := Int.eq_ofNat_of_zero_le (by omega : 0 ≤ (nth xs i).2.2)
      rw [has_iff, hA, hB, hC] at m1 m2
      rw [hA, hB, hC] at hc ⊢
      simp only [Int.toNat_natCast] at *
      have key : ∀ x y z : Nat, s.testBit x = true → s.testBit y = true → ((if s.testBit x = true then 1 else 0) + (if s.testBit y = true then 1 else 0) + (if s.testBit z = true then 1 else 0) ≠ 2) → s.testBit z = true := by
        intro x y z hx hy hz
        cases hh : s.testBit z
        · rw [hx, hy, hh] at hz; simp at hz
        · rfl
      rcases m1 with e1 | e1 | e1 <;> rcases m2 with e2 | e2 | e2
      · omega
      · have : ((A : Int) + B + C - p - q).toNat = C := by omega
        rw [this]; exact key p q C h1 h2 (by have : p = A := by omega
                                             have : q = B := by omega
                                             subst_vars; exact hc)
      · have : ((A : Int) + B + C - p - q).toNat = B := by omega
        rw [this]; exact key p q B h1 h2 (by have : p = A := by omega
                                             have : q = C := by omega
                                             subst_vars; omega)
      · have : ((A : Int) + B + C - p - q).toNat = C := by omega
        rw [this]; exact key p q C h1 h2 (by have : p = B := by omega
                                             have : q = A := by omega
                                             subst_vars; omega)
      · omega
      · have : ((A : Int) + B + C - p - q).toNat = A := by omega
        rw [this]; exact key p q A h1 h2 (by have : p = B := by omega
                                             have : q = C := by omega
                                             subst_vars; omega)
      · have : ((A : Int) + B + C - p - q).toNat = B := by omega
        rw [this]; exact key p q B h1 h2 (by have : p = C := by omega
                                             have : q = A := by omega
                                             subst_vars; omega)
      · have : ((A : Int) + B + C - p - q).toNat = A := by omega
        rw [this]; exact key p q A h1 h2 (by have : p = C := by omega
                                             have : q = B := by omega
                                             subst_vars; omega)
      · omega
/-- s is the least closed set that has s0 -/
def spanP (xs : List Blk) (s0 s : Nat) : Prop := (∀ j, s0.testBit j = true → s.testBit j = true) ∧ s < 32768 ∧ clS xs s ∧ ∀ S, clS xs S → (∀ j, s0.testBit j = true → S.testBit j = true) → ∀ j, s.testBit j = true → S.testBit j = true
theorem span_uniq {xs : List Blk} {s0 s t : Nat} (h : spanP xs s0 s) (k : spanP xs s0 t) : s = t := by
  apply Nat.eq_of_testBit_eq
  intro j
  rw [Bool.eq_iff_iff]
  exact ⟨h.2.2.2 t k.2.2.1 k.1 j, k.2.2.2 s h.2.2.1 h.1 j⟩
theorem span_self {xs : List Blk} {s0 s : Nat} (h : spanP xs s0 s) : (s == s0) = clB xs s0 := by
  rw [Bool.eq_iff_iff, beq_iff_eq, clB_iff]
  constructor
  · rintro rfl; exact h.2.2.1
  · intro hc
    apply Nat.eq_of_testBit_eq
    intro j
    rw [Bool.eq_iff_iff]
    exact ⟨h.2.2.2 s0 hc (fun _ h => h) j, h.1 j⟩
theorem or_more {s c : Nat} (h : s.testBit c = false) : s < s ||| 2 ^ c := by
  have h1 : s ≤ s ||| 2 ^ c := Nat.left_le_or
  rcases Nat.lt_or_eq_of_le h1 with h2 | h2
  · exact h2
  · have := Nat.testBit_or s (2 ^ c) c
    rw [← h2, h, Nat.testBit_two_pow] at this
    simp at this
/-- the points of a set, in order, of the first k -/
def ptsN (s : Nat) : Nat → List Int
  | 0 => []
  | k + 1 => ptsN s k ++ (if s.testBit k = true then [(k : Int)] else [])
theorem ptsN_len (s k : Nat) : (ptsN s k).length ≤ k := by
  induction k with
  | zero => simp [ptsN]
  | succ k ih => rw [ptsN, List.length_append]; split <;> simp <;> omega
theorem ptsN_mem (s : Nat) : ∀ k (x : Int), x ∈ ptsN s k ↔ ∃ p : Nat, x = p ∧ p < k ∧ s.testBit p = true := by
  intro k
  induction k with
  | zero => intro x; simp [ptsN]
  | succ k ih =>
    intro x
    rw [ptsN, List.mem_append, ih]
    constructor
    · rintro (⟨p, h1, h2, h3⟩ | h)
      · exact ⟨p, h1, by omega, h3⟩
      · split at h
        · rename_i hb; simp at h; exact ⟨k, h, by omega, hb⟩
        · simp at h
    · rintro ⟨p, h1, h2, h3⟩
      by_cases e : p = k
      · subst e; right; rw [if_pos h3]; simp [h1]
      · exact .inl ⟨p, h1, by omega, h3⟩

end Go.Proofs.Ytgbkonnmjmlalaa

/- Plain laws that join full systems to the searches for renumberings. Conditions: none. -/
namespace Go.Proofs.Ytgbkonnmjmlalaa

def thN (xs : List Blk) (a b : Nat) : Nat := (third xs a b).toNat
theorem sts_of {n : Nat} {xs : List Blk} (hs : isSys n xs) (hf : fullB n xs = true) : Sts n (thN xs) := by
  refine ⟨fun a b ha hb hab => ?_, fun a b => by unfold thN; rw [third_symm], fun a b ha hb hab => ?_⟩
  · have := third_full hs hf (p := a) (q := b) (by omega) (by omega) hab
    unfold thN; omega
  · obtain ⟨j, h1, h2⟩ := full_cov hs hf (p := a) (q := b) (by omega) (by omega) hab
    obtain ⟨a1, a2, a3⟩ := inB_iff.1 h2
    have e := third_of hs h1 (p := a) (q := b) (by omega) a2 a3
    have hr := third_full hs hf (p := a) (q := b) (by omega) (by omega) hab
    have h4 := in_third (hs.2.2.1 j h1).1 h2
    have e2 : ((thN xs a b : Nat) : Int) = third xs a b := by unfold thN; omega
    have e3 := third_of hs h1 (p := a) (q := third xs a b) (Ne.symm hr.2.2.1) a2 (by rw [e]; exact h4.2.2)
    unfold thN at *
    rw [e2, e3]
    omega
/-- the code of full systems -/
noncomputable def fcode (v : Int) (xs : List Blk) : Int := if isSysB v xs = true then (if fullB v xs = true then 0 else 5) else 1

/-! A search that ends when enough is found. -/
def takeB (found : List (List Int)) (most : Nat) (Ls : List (List Int)) : List (List Int) := found ++ Ls.take (most - found.length)
theorem take_nil (found : List (List Int)) (most : Nat) : takeB found most [] = found := by simp [takeB]
theorem take_full {found : List (List Int)} {most : Nat} (h : most ≤ found.length) (Ls : List (List Int)) : takeB found most Ls = found := by
  unfold takeB
  have : most - found.length = 0 := by omega
  rw [this]; simp
theorem take_app (found : List (List Int)) (most : Nat) (A B : List (List Int)) : takeB found most (A ++ B) = takeB (takeB found most A) most B := by
  unfold takeB
  rw [List.take_append, List.append_assoc]
  congr 2
  rw [List.length_append, List.length_take]
  by_cases h : A.length ≤ most - found.length
  · rw [Nat.min_eq_right h]; congr 1; omega
  · have h1 : most - found.length - A.length = 0 := by omega
    have h2 : most - (found.length + min (most - found.length) A.length) = 0 := by omega
    rw [h1, h2]
theorem take_one {found : List (List Int)} {most : Nat} (h : found.length < most) (L : List Int) : takeB found most [L] = found ++ [L] := by
  unfold takeB
  rw [List.take_of_length_le (by simp; omega)]
theorem take_len {found : List (List Int)} {most : Nat} (h : found.length ≤ most) (Ls : List (List Int)) : (takeB found most Ls).length ≤ most := by
  unfold takeB; rw [List.length_append, List.length_take]; omega
/-! A search that calls each one until it says no. -/
def runE (cont : List (List Int) → Bool) : List (List Int) → List (List Int) → List (List Int) × Bool
  | [], C => (C, true)
  | L :: Ls, C => if cont (C ++ [L]) = true then runE cont Ls (C ++ [L]) else (C ++ [L], false)
theorem runE_app (cont : List (List Int) → Bool) : ∀ A B C, runE cont (A ++ B) C = if (runE cont A C).2 = true then runE cont B (runE cont A C).1 else runE cont A C := by
  intro A
  induction A with
  | nil => intro B C; simp [runE]
  | cons L A ih =>
    intro B C
    rw [List.cons_append, runE, runE]
    by_cases h : cont (C ++ [L]) = true
    · rw [if_pos h, if_pos h, ih]
    · rw [if_neg h, if_neg h]; simp
theorem runE_all {cont : List (List Int) → Bool} (h : ∀ C, cont C = true) : ∀ A C, runE cont A C = (C ++ A, true) := by
  intro A
  induction A with
  | nil => intro C; simp [runE]
  | cons L A ih => intro C; rw [runE, if_pos (h _), ih]; simp
/-- a search with a stop, seen from a loop -/
theorem runE_stop {cont : List (List Int) → Bool} {f : Nat → List (List Int)} {p : Nat → Bool} {C D : List (List Int)} {k : Nat} (e : runE cont (loopL f p 0 k) C = (D, false)) : ∀ n, k ≤ n → runE cont (loopL f p 0 n) C = (D, false) := by
  intro n
  induction n with
  | zero => intro h; obtain rfl : k = 0 := by omega
            exact e
  | succ n ih =>
    intro h
    by_cases hk : k = n + 1
    · subst hk; exact e
    · rw [loopL, runE_app, ih (by omega)]; simp
theorem take_stop {f : Nat → List (List Int)} {p : Nat → Bool} {F D : List (List Int)} {most k : Nat} (e : takeB F most (loopL f p 0 k) = D) (hD : most ≤ D.length) : ∀ n, k ≤ n → takeB F most (loopL f p 0 n) = D := by
  intro n
  induction n with
  | zero => intro h; obtain rfl : k = 0 := by omega
            exact e
  | succ n ih =>
    intro h
    by_cases hk : k = n + 1
    · subst hk; exact e
    · rw [loopL, take_app, ih (by omega), take_full hD]
/-- does a renumbering go around -/
def roundFrom (L : List Int) : Nat → Int → Int
  | 0, at_ => at_
  | k + 1, at_ => roundFrom L k (nthI L at_.toNat)

end Go.Proofs.Ytgbkonnmjmlalaa

/- Plain laws of automorphisms: they are a group, their orbits, and those that go around. Conditions: none. -/
namespace Go.Proofs.Ytgbkonnmjmlalaa

theorem loop_in {f : Nat → List (List Int)} {p : Nat → Bool} {a i : Nat} {l : List Int} (hp : p i = true) (hl : l ∈ f i) (ha : a ≤ i) : ∀ m, i < m → l ∈ loopL f p a m := by
  intro m
  induction m with
  | zero => intro h; omega
  | succ m ih =>
    intro h
    rw [loopL, List.mem_append]
    by_cases e : i = m
    · subst e; right; rw [if_pos ⟨ha, hp⟩]; exact hl
    · exact .inl (ih (by omega))
theorem list_ext {L M : List Int} (hl : L.length = M.length) (h : ∀ k, k < L.length → nthI L k = nthI M k) : L = M := by
  apply List.ext_getElem hl
  intro k h1 h2
  have := h k h1
  unfold nthI at this
  simpa [List.getD_eq_getElem?_getD, List.getElem?_eq_getElem h1, List.getElem?_eq_getElem h2] using this
theorem im_eq {L M : List Int} {k : Nat} (h : nthI L k = nthI M k) : im L k = im M k := by unfold im; rw [h]
theorem enum_has {n : Nat} {T1 T2 : Nat → Nat → Nat} {M : List Int} (hM : Val n T1 T2 M) (hl : M.length = n) : ∀ d L, L.length + d = n → (∀ k, k < L.length → nthI L k = nthI M k) → M ∈ enumL n (fitI T1 T2) d L := by
  intro d
  induction d with
  | zero =>
    intro L hd hk
    rw [enumL, List.mem_singleton]
    exact (list_ext (by omega) hk).symm
  | succ d ih =>
    intro L hd hk
    rw [enumL]
    have hr := hM.rng L.length (by omega)
    refine loop_in (i := im M L.length) (fitI_iff.2 ⟨usedB_not.2 fun k hk2 e => ?_, fun a ha hT => ?_⟩) (ih _ (by simp; omega) fun k hk2 => ?_) (Nat.zero_le _) n hr.1
    · rw [im_eq (hk k hk2)] at e
      have := hM.inj k L.length (by omega) (by omega) e
      omega
    · have := hM.hom a L.length (by omega) (by omega) (by omega) (by omega)
      rw [im_eq (hk a ha), im_eq (hk _ hT)]; exact this
    · rw [List.length_append, List.length_singleton] at hk2
      by_cases e : k = L.length
      · subst e; rw [nthI_last]; exact hr.2.symm
      · rw [nthI_app (by omega)]; exact hk k (by omega)
theorem lead_iff {n : Nat} {T1 T2 : Nat → Nat → Nat} (h1 : Sts n T1) (h2 : Sts n T2) {M : List Int} : M ∈ enumL n (fitI T1 T2) n [] ↔ Val n T1 T2 M ∧ M.length = n := by
  constructor
  · intro h
    obtain ⟨k1, k2, _⟩ := enum_val h1 h2 n [] (val_nil n T1 T2) (by simp) M h
    exact ⟨k1, k2⟩
  · rintro ⟨h, hl⟩
    exact enum_has h hl n [] (by simp) (fun k hk => by simp at hk)
/-- a list by its numbers -/
def mapL (n : Nat) (f : Nat → Nat) : List Int := (List.range n).map fun i => ((f i : Nat) : Int)
theorem mapL_len (n : Nat) (f : Nat → Nat) : (mapL n f).length = n := by simp [mapL]
theorem mapL_at {n : Nat} (f : Nat → Nat) {k : Nat} (h : k < n) : nthI (mapL n f) k = (f k : Int) := by simp [mapL, nthI, h]
theorem mapL_im {n : Nat} (f : Nat → Nat) {k : Nat} (h : k < n) : im (mapL n f) k = f k := by unfold im; rw [mapL_at f h]; rfl
theorem val_map {n : Nat} {T1 T2 : Nat → Nat → Nat} (h1 : Sts n T1) {f : Nat → Nat} (hr : ∀ k, k < n → f k < n) (hi : ∀ j k, j < n → k < n → f j = f k → j = k) (hh : ∀ a b, a < n → b < n → a ≠ b → T2 (f a) (f b) = f (T1 a b)) : Val n T1 T2 (mapL n f) := by
  refine ⟨by rw [mapL_len]; omega, fun k hk => ?_, fun j k hj hk e => ?_, fun a b ha hb hab hT => ?_⟩
  · rw [mapL_len] at hk; rw [mapL_im f hk, mapL_at f hk]; exact ⟨hr k hk, rfl⟩
  · rw [mapL_len] at hj hk; rw [mapL_im f hj, mapL_im f hk] at e; exact hi j k hj hk e
  · rw [mapL_len] at ha hb hT; rw [mapL_im f ha, mapL_im f hb, mapL_im f hT]; exact hh a b ha hb hab
theorem val_onto {n : Nat} {T1 T2 : Nat → Nat → Nat} {M : List Int} (hM : Val n T1 T2 M) (hl : M.length = n) {i : Nat} (hi : i < n) : ∃ k, k < n ∧ im M k = i := by
  refine Classical.byContradiction fun hno => ?_
  have hno' : ∀ k, k < n → im M k ≠ i := fun k hk e => hno ⟨k, hk, e⟩
  have hnd : (i :: (List.range n).map (im M)).Nodup := by
    rw [List.nodup_cons]
    refine ⟨fun hm => ?_, ?_⟩
    · obtain ⟨k, hk, e⟩ := List.mem_map.1 hm
      exact hno' k (List.mem_range.1 hk) e
    · rw [List.nodup_iff_pairwise_ne, List.pairwise_map]
      have hp := List.nodup_range (n := n)
      rw [List.nodup_iff_pairwise_ne] at hp
      refine List.Pairwise.imp_of_mem (fun {a b} ha hb hne e => hne ?_) hp
      exact hM.inj a b (by have := List.mem_range.1 ha; omega) (by have := List.mem_range.1 hb; omega) e
  have := nodup_lt n _ hnd (by
    intro x hx
    rcases List.mem_cons.1 hx with rfl | hx
    · exact hi
    · obtain ⟨k, hk, rfl⟩ := List.mem_map.1 hx
      exact (hM.rng k (by have := List.mem_range.1 hk; omega)).1)
  simp at this; omega
noncomputable def invF (M : List Int) (n i : Nat) : Nat := open Classical in if h : ∃ k, k < n ∧ im M k = i then Classical.choose h else 0
theorem invF_is {n : Nat} {T1 T2 : Nat → Nat → Nat} {M : List Int} (hM : Val n T1 T2 M) (hl : M.length = n) {i : Nat} (hi : i < n) : invF M n i < n ∧ im M (invF M n i) = i := by
  have h := val_onto hM hl hi
  unfold invF
  rw [dif_pos h]
  exact Classical.choose_spec h
/-- automorphisms -/
structure Aut (n : Nat) (T : Nat → Nat → Nat) (M : List Int) : Prop where
  v : Val n T T M
  l : M.length = n
theorem aut_id {n : Nat} {T : Nat → Nat → Nat} (h : Sts n T) : Aut n T (mapL n fun i => i) :=
  ⟨val_map h (fun _ hk => hk) (fun _ _ _ _ e => e) (fun _ _ _ _ _ => rfl), mapL_len _ _⟩
theorem aut_comp {n : Nat} {T : Nat → Nat → Nat} (h : Sts n T) {M K : List Int} (hM : Aut n T M) (hK : Aut n T K) : Aut n T (mapL n fun i => im M (im K i)) := by
  have hml := hM.l; have hkl := hK.l
  refine ⟨val_map h (fun k hk => ?_) (fun j k hj hk e => ?_) (fun a b ha hb hab => ?_), mapL_len _ _⟩
  · exact (hM.v.rng _ (by rw [hml]; exact (hK.v.rng k (by omega)).1)).1
  · have r1 := (hK.v.rng j (by omega)).1; have r2 := (hK.v.rng k (by omega)).1
    exact hK.v.inj j k (by omega) (by omega) (hM.v.inj _ _ (by omega) (by omega) e)
  · have r1 := (hK.v.rng a (by omega)).1; have r2 := (hK.v.rng b (by omega)).1
    have hr := (h.rng a b ha hb hab).1
    have hne : im K a ≠ im K b := fun e => hab (hK.v.inj a b (by omega) (by omega) e)
    have e1 := hK.v.hom a b (by omega) (by omega) hab (by omega)
    have e2 := hM.v.hom (im K a) (im K b) (by omega) (by omega) hne (by have := (h.rng _ _ r1 r2 hne).1; omega)
    show T (im M (im K a)) (im M (im K b)) = im M (im K (T a b))
    rw [e2, e1]
theorem aut_inv {n : Nat} {T : Nat → Nat → Nat} (h : Sts n T) {M : List Int} (hM : Aut n T M) : Aut n T (mapL n (invF M n)) := by
  have hml := hM.l
  refine ⟨val_map h (fun k hk => (invF_is hM.v hM.l hk).1) (fun j k hj hk e => ?_) (fun a b ha hb hab => ?_), mapL_len _ _⟩
  · rw [← (invF_is hM.v hM.l hj).2, ← (invF_is hM.v hM.l hk).2, e]
  · obtain ⟨r1, e1⟩ := invF_is hM.v hM.l ha
    obtain ⟨r2, e2⟩ := invF_is hM.v hM.l hb
    have hne : invF M n a ≠ invF M n b := fun e => hab (by rw [← e1, ← e2, e])
    have hr := (h.rng _ _ r1 r2 hne).1
    have hr2 := (h.rng a b ha hb hab).1
    obtain ⟨r3, e3⟩ := invF_is hM.v hM.l hr2
    have e4 := hM.v.hom _ _ (by omega) (by omega) hne (by omega)
    rw [e1, e2] at e4
    exact hM.v.inj _ _ (by omega) (by omega) (by rw [e3, e4])
/-! Orbits of a relation. -/
/-- the numbers in relation to one -/
def relL (R : Nat → Nat → Bool) (n p : Nat) : List Int := ((List.range n).filter (R p)).map fun (q : Nat) => (q : Int)
/-- is one in relation to a lesser one -/
noncomputable def lessB (R : Nat → Nat → Bool) (p : Nat) : Bool := open Classical in decide (∃ q, q < p ∧ R p q = true)
noncomputable def orbL (R : Nat → Nat → Bool) (n : Nat) : Nat → List (List Int)
  | 0 => []
  | k + 1 => orbL R n k ++ (if lessB R k = true then [] else [relL R n k])
structure Eqv (R : Nat → Nat → Bool) (n : Nat) : Prop where
  rfl_ : ∀ p, p < n → R p p = true
  sym : ∀ p q, p < n → q < n → R p q = true → R q p = true
  tr : ∀ p q r, p < n → q < n → r < n → R p q = true → R q r = true → R p r = true
/-- what has been met before the k-th number -/
noncomputable def metB (R : Nat → Nat → Bool) (k q : Nat) : Bool := open Classical in decide (∃ p, p < k ∧ R p q = true)
theorem metB_iff {R : Nat → Nat → Bool} {k q : Nat} : metB R k q = true ↔ ∃ p, p < k ∧ R p q = true := by unfold metB; simp
theorem lessB_iff {R : Nat → Nat → Bool} {p : Nat} : lessB R p = true ↔ ∃ q, q < p ∧ R p q = true := by unfold lessB; simp
theorem met_less {R : Nat → Nat → Bool} {n k : Nat} (h : Eqv R n) (hk : k < n) : metB R k k = lessB R k := by
  rw [Bool.eq_iff_iff, metB_iff, lessB_iff]
  constructor
  · rintro ⟨p, hp, hR⟩; exact ⟨p, hp, h.sym p k (by omega) hk hR⟩
  · rintro ⟨p, hp, hR⟩; exact ⟨p, hp, h.sym k p hk (by omega) hR⟩
theorem met_step {R : Nat → Nat → Bool} {n k q : Nat} (h : Eqv R n) (hk : k < n) (hq : q < n) : metB R (k + 1) q = (metB R k q || (!lessB R k && R k q)) := by
  rw [Bool.eq_iff_iff, Bool.or_eq_true, metB_iff, metB_iff, Bool.and_eq_true, Bool.not_eq_true', ← met_less h hk]
  constructor
  · rintro ⟨p, hp, hR⟩
    by_cases e : p = k
    · subst e
      cases hm : metB R p p
      · exact .inr ⟨rfl, hR⟩
      · obtain ⟨p', hp', hR'⟩ := metB_iff.1 hm
        exact .inl ⟨p', hp', h.tr p' p q (by omega) hk hq hR' hR⟩
    · exact .inl ⟨p, by omega, hR⟩
  · rintro (⟨p, hp, hR⟩ | ⟨_, hR⟩)
    · exact ⟨p, by omega, hR⟩
    · exact ⟨k, by omega, hR⟩
theorem relL_len (R : Nat → Nat → Bool) (n p : Nat) : (relL R n p).length ≤ n := by
  unfold relL
  rw [List.length_map]
  have := List.length_filter_le (R p) (List.range n)
  simpa using this
theorem relL_succ (R : Nat → Nat → Bool) (n p : Nat) : relL R (n + 1) p = relL R n p ++ (if R p n = true then [(n : Int)] else []) := by
  unfold relL
  rw [List.range_succ, List.filter_append, List.map_append]
  congr 1
  by_cases h : R p n = true
  · rw [if_pos h, List.filter_cons_of_pos h]; rfl
  · rw [if_neg h, List.filter_cons_of_neg h]; rfl
theorem orbL_len (R : Nat → Nat → Bool) (n k : Nat) : (orbL R n k).length ≤ k := by
  induction k with
  | zero => simp [orbL]
  | succ k ih => rw [orbL, List.length_append]; split <;> simp <;> omega
theorem orbL_mem {R : Nat → Nat → Bool} {n k : Nat} {l : List Int} (h : l ∈ orbL R n k) : ∃ p, p < k ∧ l = relL R n p := by
  induction k with
  | zero => simp [orbL] at h
  | succ k ih =>
    rw [orbL, List.mem_append] at h
    rcases h with h | h
    · obtain ⟨p, hp, e⟩ := ih h; exact ⟨p, by omega, e⟩
    · split at h
      · simp at h
      · exact ⟨k, by omega, by simpa using h⟩
/-! Renumberings that go around. -/
theorem round_succ (L : List Int) : ∀ k a, roundFrom L (k + 1) a = nthI L (roundFrom L k a).toNat := by
  intro k
  induction k with
  | zero => intro a; rfl
  | succ k ih => intro a; rw [roundFrom, ih]; rfl
def itN (L : List Int) (k : Nat) : Nat := (roundFrom L k 0).toNat
theorem itN_zero (L : List Int) : itN L 0 = 0 := rfl
theorem itN_succ (L : List Int) (k : Nat) : itN L (k + 1) = im L (itN L k) := by unfold itN; rw [round_succ]; rfl
noncomputable def goB (L : List Int) : Bool := open Classical in decide ((∀ j, 1 ≤ j → j < L.length → itN L j ≠ 0) ∧ itN L L.length = 0)
theorem goB_iff {L : List Int} : goB L = true ↔ (∀ j, 1 ≤ j → j < L.length → itN L j ≠ 0) ∧ itN L L.length = 0 := by unfold goB; simp
theorem itN_lt {n : Nat} {T1 T2 : Nat → Nat → Nat} {L : List Int} (h : Val n T1 T2 L) (hl : L.length = n) (hn : 0 < n) : ∀ k, itN L k < n := by
  intro k
  induction k with
  | zero => exact hn
  | succ k ih => rw [itN_succ]; exact (h.rng _ (by omega)).1
theorem itN_back {n : Nat} {T1 T2 : Nat → Nat → Nat} {L : List Int} (h : Val n T1 T2 L) (hl : L.length = n) (hn : 0 < n) : ∀ i d, itN L i = itN L (i + d) → itN L d = 0 := by
  intro i
  induction i with
  | zero => intro d e; rw [Nat.zero_add] at e; rw [← e]; rfl
  | succ i ih =>
    intro d e
    rw [Nat.add_right_comm, itN_succ, itN_succ] at e
    have h1 := itN_lt h hl hn i; have h2 := itN_lt h hl hn (i + d)
    exact ih d (h.inj _ _ (by omega) (by omega) e)
theorem around_lt {n : Nat} {T1 T2 : Nat → Nat → Nat} {L : List Int} (h : Val n T1 T2 L) (hl : L.length = n) (hn : 0 < n) {m : Nat} (hm : ∀ j, 1 ≤ j → j ≤ m → itN L j ≠ 0) : m < n := by
  have hnd : ((List.range (m + 1)).map (itN L)).Nodup := by
    rw [List.nodup_iff_pairwise_ne, List.pairwise_map]
    have hp : (List.range (m + 1)).Pairwise (· < ·) := List.pairwise_lt_range
    refine List.Pairwise.imp_of_mem (fun {a b} ha hb hlt e => ?_) hp
    have h1 := List.mem_range.1 ha; have h2 := List.mem_range.1 hb
    obtain ⟨d, rfl⟩ : ∃ d, b = a + d := ⟨b - a, by omega⟩
    exact hm d (by omega) (by omega) (itN_back h hl hn a d e)
  have := nodup_lt n _ hnd (by
    intro x hx
    obtain ⟨k, _, rfl⟩ := List.mem_map.1 hx
    exact itN_lt h hl hn k)
  simp at this; omega
theorem around_is {L : List Int} {m : Nat} (hm : ∀ j, 1 ≤ j → j < m → itN L j ≠ 0) (h1 : 1 ≤ m) (h0 : itN L m = 0) (hl : 1 ≤ L.length) : decide ((m : Int) = (L.length : Int)) = goB L := by
  rw [Bool.eq_iff_iff, decide_eq_true_eq, goB_iff]
  constructor
  · intro e
    have e' : m = L.length := by omega
    subst e'; exact ⟨hm, h0⟩
  · rintro ⟨k1, k2⟩
    have h2 : ¬ m < L.length := fun h => k1 m h1 h h0
    have h3 : ¬ L.length < m := fun h => hm _ hl h k2
    omega

end Go.Proofs.Ytgbkonnmjmlalaa

/- Words for the reference's search for renumberings in memory; conditions: none. -/
namespace Go.Proofs.Ytgbkonnmjmlalaa
open Go.RowKit

section
variable {P : Program} (w : World)
/-- append of any number of elements to a row of the call's own, at a step of a region that draws. -/
theorem step_append_at {ops : Array Oper} {o : Oper} {a : Act} {K : Act → World → Prop} {Q : Exit → Act → World → Prop} {E : Prop} (hgd : o.guard = none) (s x : Operand) (t : TypeId)
    (ho : o.op = .call { callee := .builtin .append, args := #[s, x], argTypes := #[t, t] })
    (base : Nat) (e : TypeId) (i : TypeInfo) (z : Value) (size bytes : Nat) (ht : P.underlying t = some (.slice e)) (hi : P.info? e = some i) (hz : i.zero = some z)
    (hsize : i.size = size) (hby : i.bytes = bytes) (hzs : z.cells.size = size) (hsz : 0 < size)
    (v : Value) (n : Nat) (xs : List Value) (hs : a.eval s = v) (hown : w.ownsRow base e size v n xs)
    (ad : Addr) (m c : Nat) (news : List Value) (hx : a.eval x = .slice (some ad) m c) (hl : news.length = m * size) (hnews : ∀ j u, news[j]? = some u → w.cell? (ad.add j) = some u) (h1 : ∀ u ∈ news, u.oneCell' = true)
    (h63 : n + m ≤ maxLen) (hbytes : (n + m) * bytes ≤ 140737488355328) (hbase : base ≤ w.heap.size)
    (h : ∀ v' w', w'.ownsRow base e size v' (n + m) (xs ++ news) → w.grownBy w' v.ownBlock → (v'.ownBlock = v.ownBlock ∨ v'.ownBlock = some w.heap.size) → K (a.put o.dst v') w') :
    if Region.wanted o (yielded ops a.tmps) = true then Oper.wp P o a w K Q else E := by
  have hw : Region.wanted o (yielded ops a.tmps) = true := by simp [Region.wanted, hgd]
  rw [if_pos hw]
  obtain ⟨v', w', hr, h2, h3, _, h5⟩ := run_append_own_at (P := P) w base t o.type e i z size bytes ht hi hz hsize hby hzs hsz v n xs hown ad m c news hl hnews h1 h63 hbytes hbase
  unfold Oper.wp execOp
  simp only [ho, resolve, invoke, builtin, Sem.run_bind, Sem.run_pure, Result.andThen_ok, List.map_toArray, List.map_cons, List.map_nil, hs, hx, hr]
  exact h v' w' h2 h3 h5
end

/-- u is a row of its own (above b1) of the headers of lists that are rows of their own (above b2) -/
def LLp (w : World) (b1 b2 : Nat) (u : Value) (xss : List (List Int)) : Prop :=
  ∃ vs, w.ownsRow b1 39 1 u xss.length vs ∧ ∀ k, k < xss.length → ∃ h, vs[k]? = some h ∧ Ro w b2 h (nthLL xss k) ∧ ∀ b, h.ownBlock = some b → u.ownBlock ≠ some b
theorem LLp.below {w w' : World} {b1 b2 : Nat} {u : Value} {xss : List (List Int)} (h : LLp w b1 b2 u xss) (hb : Below w.heap.size w w') : LLp w' b1 b2 u xss := by
  obtain ⟨vs, ho, hi⟩ := h
  refine ⟨vs, own_below ho hb, fun k hk => ?_⟩
  obtain ⟨r, h1, h2, h3⟩ := hi k hk
  exact ⟨r, h1, h2.below hb, h3⟩
theorem LLp.lt {w : World} {b1 b2 : Nat} {u : Value} {xss : List (List Int)} (h : LLp w b1 b2 u xss) : ∀ b, u.ownBlock = some b → b1 ≤ b ∧ b < w.heap.size := by
  obtain ⟨vs, ho, _⟩ := h
  intro b hb
  exact ho.lt b hb
theorem LLp.llq {w : World} {b1 b2 : Nat} {u : Value} {xss : List (List Int)} (h : LLp w b1 b2 u xss) (hb : b1 ≤ b2) : LLq w b1 u xss := by
  obtain ⟨vs, ho, hi⟩ := h
  refine ⟨vs, ho, fun k hk => ?_⟩
  obtain ⟨r, h1, h2, h3⟩ := hi k hk
  exact ⟨r, h1, own_base h2 hb, h3⟩
theorem LLp.slice {w : World} {b1 b2 : Nat} {u : Value} {xss : List (List Int)} (h : LLp w b1 b2 u xss) : ∃ A c, u = .slice A xss.length c := by
  obtain ⟨vs, ho, _⟩ := h
  exact own_slice ho
theorem LLp.snoc {w w1 w2 : World} {b1 b2 : Nat} {u v2 r : Value} {xss : List (List Int)} {vs : List Value} {xs : List Int}
    (hi : ∀ k, k < xss.length → ∃ h, vs[k]? = some h ∧ Ro w b2 h (nthLL xss k) ∧ ∀ b, h.ownBlock = some b → u.ownBlock ≠ some b) (hv : vs.length = xss.length) (hB : Ro w b2 r xs) (hf : ∀ b, r.ownBlock = some b → u.ownBlock ≠ some b)
    (hb : Below w.heap.size w w1) (hg : w1.grownBy w2 u.ownBlock) (ho : w2.ownsRow b1 39 1 v2 (xss.length + 1) (vs ++ [r])) (hat : v2.ownBlock = u.ownBlock ∨ v2.ownBlock = some w1.heap.size) :
    LLp w2 b1 b2 v2 (xss ++ [xs]) := by
  have key : ∀ {h : Value} {ys : List Int}, Ro w b2 h ys → (∀ b, h.ownBlock = some b → u.ownBlock ≠ some b) → Ro w2 b2 h ys ∧ ∀ b, h.ownBlock = some b → v2.ownBlock ≠ some b := by
    intro h ys h1 h2
    refine ⟨(h1.below hb).grown hg h2, fun b e => ?_⟩
    rcases hat with h' | h'
    · rw [h']; exact h2 b e
    · rw [h']; intro e2
      simp only [Option.some.injEq] at e2
      have := (h1.lt b e).2; have := hb.size; omega
  refine ⟨vs ++ [r], by rw [List.length_append]; exact ho, fun k hk => ?_⟩
  rw [List.length_append, List.length_singleton] at hk
  by_cases hkl : k < xss.length
  · obtain ⟨h, h1, h2, h3⟩ := hi k hkl
    have e : nthLL (xss ++ [xs]) k = nthLL xss k := by simp [nthLL, List.getElem?_append_left hkl]
    rw [e]
    exact ⟨h, by rw [List.getElem?_append_left (by omega)]; exact h1, key h2 h3⟩
  · obtain rfl : k = xss.length := by omega
    have e : nthLL (xss ++ [xs]) xss.length = xs := by simp [nthLL]
    rw [e]
    exact ⟨r, by rw [← hv]; simp, key hB hf⟩
theorem LLp.grown {w w' : World} {b1 b2 s : Nat} {u : Value} {xss : List (List Int)} (h : LLp w b1 b2 u xss) (hg : w.grownBy w' (some s)) (hs : s < b2) (hu : u.ownBlock ≠ some s) : LLp w' b1 b2 u xss := by
  obtain ⟨vs, ho, hi⟩ := h
  refine ⟨vs, World.ownsRow.kept ho hg (.inr hu), fun k hk => ?_⟩
  obtain ⟨r, h1, h2, h3⟩ := hi k hk
  refine ⟨r, h1, h2.grown hg fun b e e2 => ?_, h3⟩
  simp only [Option.some.injEq] at e2
  have := (h2.lt b e).1; omega

/-- the cells of the reference's search -/
def gVals (g1 g2 n most : Nat) (u : Value) (ar : Bool) : Array Value := #[.slice (some ⟨g1, 0, none⟩) 256 256, .slice (some ⟨g2, 0, none⟩) 256 256, .int .i64 n, .int .i64 most, u, .bool ar]
def Gb (w : World) (s g1 g2 n most : Nat) (u : Value) (ar : Bool) : Prop := Row w s 106 (gVals g1 g2 n most u ar)
theorem Gb.lt {w : World} {s g1 g2 n most : Nat} {u : Value} {ar : Bool} (h : Gb w s g1 g2 n most u ar) : s < w.heap.size := Row.lt h
theorem Gb.below {w w' : World} {s g1 g2 n most : Nat} {u : Value} {ar : Bool} (h : Gb w s g1 g2 n most u ar) (hb : Below w.heap.size w w') : Gb w' s g1 g2 n most u ar := Row.below h hb
theorem Gb.c6 {w : World} {s g1 g2 n most : Nat} {u : Value} {ar : Bool} (h : Gb w s g1 g2 n most u ar) :
    w.cell? ⟨s, 0, none⟩ = some (.slice (some ⟨g1, 0, none⟩) 256 256) ∧ w.cell? ⟨s, 1, none⟩ = some (.slice (some ⟨g2, 0, none⟩) 256 256) ∧ w.cell? ⟨s, 2, none⟩ = some (.int .i64 n) ∧ w.cell? ⟨s, 3, none⟩ = some (.int .i64 most) ∧ w.cell? ⟨s, 4, none⟩ = some u ∧ w.cell? ⟨s, 5, none⟩ = some (.bool ar) :=
  ⟨Row.cell h 0, Row.cell h 1, Row.cell h 2, Row.cell h 3, Row.cell h 4, Row.cell h 5⟩
theorem Gb.frozen {w : World} {s g1 g2 n most : Nat} {u : Value} {ar : Bool} (h : Gb w s g1 g2 n most u ar) (i : Nat) : w.frozen? ⟨s, i, none⟩ = false := Row.frozen h i
theorem Gb.set {w : World} {s g1 g2 n most : Nat} {u : Value} {ar : Bool} (h : Gb w s g1 g2 n most u ar) (v : Value) : Gb (w.setCell ⟨s, 4, none⟩ v) s g1 g2 n most v ar := Row.set h 4 v

/-- but for the block s and the row of v all is as it was; u is that row, or a new one -/
structure Gs (w w' : World) (s : Nat) (v u : Value) : Prop where
  os : w'.os = w.os
  tape : w'.tape = w.tape
  output : w'.output = w.output
  size : w.heap.size ≤ w'.heap.size
  block : ∀ k, k < w.heap.size → k ≠ s → v.ownBlock ≠ some k → w'.heap[k]? = w.heap[k]?
  at_ : u.ownBlock = v.ownBlock ∨ ∃ b, u.ownBlock = some b ∧ w.heap.size ≤ b
theorem Gs.refl (w : World) (s : Nat) (v : Value) : Gs w w s v v := ⟨rfl, rfl, rfl, Nat.le_refl _, fun _ _ _ _ => rfl, .inl rfl⟩
theorem Gs.below {w a b : World} {s : Nat} {v u : Value} (h : Gs w a s v u) (hb : Below a.heap.size a b) : Gs w b s v u :=
  ⟨hb.os.trans h.os, hb.tape.trans h.tape, hb.output.trans h.output, Nat.le_trans h.size hb.size, fun k hk h1 h2 => (hb.block k (Nat.lt_of_lt_of_le hk h.size)).trans (h.block k hk h1 h2), h.at_⟩
theorem Gs.join {w a b : World} {s : Nat} {v u x : Value} (h : Gs w a s v u) (k : Gs a b s u x) : Gs w b s v x := by
  refine ⟨k.os.trans h.os, k.tape.trans h.tape, k.output.trans h.output, Nat.le_trans h.size k.size, fun i hi h1 h2 => ?_, ?_⟩
  · rw [← h.block i hi h1 h2]
    refine k.block i (Nat.lt_of_lt_of_le hi h.size) h1 fun e => ?_
    rcases h.at_ with e2 | ⟨q, e2, hq⟩
    · rw [e2] at e; exact h2 e
    · rw [e2] at e; simp only [Option.some.injEq] at e; omega
  · rcases k.at_ with e | ⟨q, e, hq⟩
    · rw [e]; exact h.at_
    · exact .inr ⟨q, e, Nat.le_trans h.size hq⟩
theorem Gs.ne {w a : World} {s : Nat} {v u : Value} (h : Gs w a s v u) {k : Nat} (hk : k < w.heap.size) (hv : v.ownBlock ≠ some k) : u.ownBlock ≠ some k := by
  rcases h.at_ with e | ⟨q, e, hq⟩
  · rw [e]; exact hv
  · rw [e]; simp only [ne_eq, Option.some.injEq]; omega
theorem Gs.out {w a : World} {s B : Nat} {v u : Value} (h : Gs w a s v u) (hB : B ≤ w.heap.size) (hs : B ≤ s) (hv : ∀ b, v.ownBlock = some b → B ≤ b) : Below B w a :=
  ⟨h.os, h.tape, h.output, h.size, fun k hk => h.block k (by omega) (by omega) (fun e => by have := hv k e; omega)⟩
theorem Gs.row {w a : World} {s g : Nat} {v u : Value} {t : TypeId} {cur : Array Value} (h : Gs w a s v u) (hR : Row w g t cur) (h1 : g ≠ s) (h2 : v.ownBlock ≠ some g) : Row a g t cur := (h.block g hR.lt h1 h2).trans hR
theorem Gs.grown {w a b : World} {s : Nat} {v u x : Value} (h : Gs w a s v u) (hg : a.grownBy b u.ownBlock) (hx : x.ownBlock = u.ownBlock ∨ ∃ q, x.ownBlock = some q ∧ a.heap.size ≤ q) : Gs w b s v x :=
  h.join ⟨hg.os, hg.tape, hg.output, hg.size, fun k hk _ h2 => hg.block k hk (fun e => h2 e.symm), hx⟩
theorem Gs.set {w a : World} {s : Nat} {v u : Value} (h : Gs w a s v u) (i : Nat) (x : Value) : Gs w (a.setCell ⟨s, i, none⟩ x) s v u := by
  refine h.join ⟨rfl, rfl, rfl, by simp [World.setCell], fun k hk h1 _ => Below.heap_setCell _ _ _ _ h1, .inl rfl⟩
theorem Gs.ro {w a : World} {s bl : Nat} {v u un : Value} {L : List Int} (h : Gs w a s v u) (hR : Ro w bl un L) (h1 : un.ownBlock ≠ some s) (h2 : ∀ b, un.ownBlock = some b → v.ownBlock ≠ some b) : Ro a bl un L := by
  refine ⟨hR.1, ?_⟩
  rcases hR.2 with h' | ⟨g, cap, cur, hv, hg, hrow, r⟩
  · exact .inl h'
  · have e : un.ownBlock = some g := by rw [hv]; rfl
    exact .inr ⟨g, cap, cur, hv, hg, h.row hrow (fun e2 => h1 (by rw [e, e2])) (h2 g e), r⟩
/-! Searches whose finds are sifted. -/
theorem loop_filter {f : Nat → List (List Int)} {p : Nat → Bool} {a : Nat} (q : List Int → Bool) : ∀ m, (loopL f p a m).filter q = loopL (fun i => (f i).filter q) p a m := by
  intro m
  induction m with
  | zero => rfl
  | succ m ih => rw [loopL, loopL, List.filter_append, ih]; congr 1; split <;> simp

end Go.Proofs.Ytgbkonnmjmlalaa

/- Words for the program's search for renumberings in memory; conditions: none. -/
namespace Go.Proofs.Ytgbkonnmjmlalaa
open Go.RowKit

/-- the cells of a search: its number of points, two grids, images, used points, what is called -/
def sVal (n gx gy : Nat) (ev : Value) (to : Nat → Int) (us : Nat → Bool) (i : Nat) : Value :=
  if i = 0 then .int .i64 n else if i = 1 then .pointer (some ⟨gx, 0, none⟩) else if i = 2 then .pointer (some ⟨gy, 0, none⟩) else if i < 18 then .int .i64 (to (i - 3)) else if i < 33 then .bool (us (i - 18)) else ev
def sCells (n gx gy : Nat) (ev : Value) (to : Nat → Int) (us : Nat → Bool) : Array Value := ((List.range 34).map (sVal n gx gy ev to us)).toArray
def Sb (w : World) (sb n gx gy : Nat) (ev : Value) (to : Nat → Int) (us : Nat → Bool) : Prop := Row w sb 124 (sCells n gx gy ev to us)
theorem sCells_get (n gx gy : Nat) (ev : Value) (to : Nat → Int) (us : Nat → Bool) {i : Nat} (h : i < 34) : (sCells n gx gy ev to us)[i]? = some (sVal n gx gy ev to us i) := by simp [sCells, h]
theorem Sb.lt {w : World} {sb n gx gy : Nat} {ev : Value} {to : Nat → Int} {us : Nat → Bool} (h : Sb w sb n gx gy ev to us) : sb < w.heap.size := Row.lt h
theorem Sb.cell {w : World} {sb n gx gy : Nat} {ev : Value} {to : Nat → Int} {us : Nat → Bool} (h : Sb w sb n gx gy ev to us) {i : Nat} (hi : i < 34) : w.cell? ⟨sb, i, none⟩ = some (sVal n gx gy ev to us i) := (Row.cell h i).trans (sCells_get _ _ _ _ _ _ hi)
theorem Sb.frozen {w : World} {sb n gx gy : Nat} {ev : Value} {to : Nat → Int} {us : Nat → Bool} (h : Sb w sb n gx gy ev to us) (i : Nat) : w.frozen? ⟨sb, i, none⟩ = false := Row.frozen h i
theorem Sb.c_n {w : World} {sb n gx gy : Nat} {ev : Value} {to : Nat → Int} {us : Nat → Bool} (h : Sb w sb n gx gy ev to us) : w.cell? ⟨sb, 0, none⟩ = some (.int .i64 n) := h.cell (i := 0) (by omega)
theorem Sb.c_x {w : World} {sb n gx gy : Nat} {ev : Value} {to : Nat → Int} {us : Nat → Bool} (h : Sb w sb n gx gy ev to us) : w.cell? ⟨sb, 1, none⟩ = some (.pointer (some ⟨gx, 0, none⟩)) := h.cell (i := 1) (by omega)
theorem Sb.c_y {w : World} {sb n gx gy : Nat} {ev : Value} {to : Nat → Int} {us : Nat → Bool} (h : Sb w sb n gx gy ev to us) : w.cell? ⟨sb, 2, none⟩ = some (.pointer (some ⟨gy, 0, none⟩)) := h.cell (i := 2) (by omega)
theorem Sb.c_to {w : World} {sb n gx gy : Nat} {ev : Value} {to : Nat → Int} {us : Nat → Bool} (h : Sb w sb n gx gy ev to us) {k : Nat} (hk : k < 15) : w.cell? ⟨sb, 3 + k, none⟩ = some (.int .i64 (to k)) := by
  rw [h.cell (i := 3 + k) (by omega)]
  unfold sVal
  rw [if_neg (by omega), if_neg (by omega), if_neg (by omega), if_pos (by omega)]
  have : 3 + k - 3 = k := by omega
  rw [this]
theorem Sb.c_us {w : World} {sb n gx gy : Nat} {ev : Value} {to : Nat → Int} {us : Nat → Bool} (h : Sb w sb n gx gy ev to us) {k : Nat} (hk : k < 15) : w.cell? ⟨sb, 18 + k, none⟩ = some (.bool (us k)) := by
  rw [h.cell (i := 18 + k) (by omega)]
  unfold sVal
  rw [if_neg (by omega), if_neg (by omega), if_neg (by omega), if_neg (by omega), if_pos (by omega)]
  have : 18 + k - 18 = k := by omega
  rw [this]
theorem Sb.c_ev {w : World} {sb n gx gy : Nat} {ev : Value} {to : Nat → Int} {us : Nat → Bool} (h : Sb w sb n gx gy ev to us) : w.cell? ⟨sb, 33, none⟩ = some ev := h.cell (i := 33) (by omega)
theorem Sb.set_to {w : World} {sb n gx gy : Nat} {ev : Value} {to : Nat → Int} {us : Nat → Bool} (h : Sb w sb n gx gy ev to us) {k : Nat} (hk : k < 15) (x : Int) : Sb (w.setCell ⟨sb, 3 + k, none⟩ (.int .i64 x)) sb n gx gy ev (updA to k x) us := by
  have h2 := Row.set h (3 + k) (.int .i64 x)
  have e : (sCells n gx gy ev to us).setIfInBounds (3 + k) (.int .i64 x) = sCells n gx gy ev (updA to k x) us := by
    apply Array.ext_getElem?
    intro j
    have hs : (sCells n gx gy ev to us).size = 34 := by simp [sCells]
    rw [Array.getElem?_setIfInBounds, hs]
    by_cases hj : 3 + k = j
    · subst hj
      rw [if_pos rfl, if_pos (by omega), sCells_get _ _ _ _ _ _ (by omega)]
      unfold sVal
      rw [if_neg (by omega), if_neg (by omega), if_neg (by omega), if_pos (by omega)]
      have : 3 + k - 3 = k := by omega
      rw [this, updA_same]
    · rw [if_neg hj]
      by_cases hlt : j < 34
      · rw [sCells_get _ _ _ _ _ _ hlt, sCells_get _ _ _ _ _ _ hlt]
        unfold sVal
        by_cases h1 : j < 18
        · by_cases h3 : 3 ≤ j
          · have : updA to k x (j - 3) = to (j - 3) := updA_ne _ _ (by omega)
            simp only [this]
          · have : j = 0 ∨ j = 1 ∨ j = 2 := by omega
            rcases this with rfl | rfl | rfl <;> rfl
        · simp only [h1, if_false]
      · rw [Array.getElem?_eq_none (by rw [hs]; omega), Array.getElem?_eq_none (by simp [sCells]; omega)]
  rw [e] at h2
  exact h2
theorem Sb.set_us {w : World} {sb n gx gy : Nat} {ev : Value} {to : Nat → Int} {us : Nat → Bool} (h : Sb w sb n gx gy ev to us) {k : Nat} (hk : k < 15) (x : Bool) : Sb (w.setCell ⟨sb, 18 + k, none⟩ (.bool x)) sb n gx gy ev to (updA us k x) := by
  have h2 := Row.set h (18 + k) (.bool x)
  have e : (sCells n gx gy ev to us).setIfInBounds (18 + k) (.bool x) = sCells n gx gy ev to (updA us k x) := by
    apply Array.ext_getElem?
    intro j
    have hs : (sCells n gx gy ev to us).size = 34 := by simp [sCells]
    rw [Array.getElem?_setIfInBounds, hs]
    by_cases hj : 18 + k = j
    · subst hj
      rw [if_pos rfl, if_pos (by omega), sCells_get _ _ _ _ _ _ (by omega)]
      unfold sVal
      rw [if_neg (by omega), if_neg (by omega), if_neg (by omega), if_neg (by omega), if_pos (by omega)]
      have : 18 + k - 18 = k := by omega
      rw [this, updA_same]
    · rw [if_neg hj]
      by_cases hlt : j < 34
      · rw [sCells_get _ _ _ _ _ _ hlt, sCells_get _ _ _ _ _ _ hlt]
        unfold sVal
        by_cases h1 : j < 18
        · simp only [h1, if_true]
        · have : updA us k x (j - 18) = us (j - 18) := updA_ne _ _ (by omega)
          simp only [this]
      · rw [Array.getElem?_eq_none (by rw [hs]; omega), Array.getElem?_eq_none (by simp [sCells]; omega)]
  rw [e] at h2
  exact h2
theorem Sb.keep {w w' : World} {sb n gx gy : Nat} {ev : Value} {to : Nat → Int} {us : Nat → Bool} (h : Sb w sb n gx gy ev to us) (e : w'.heap[sb]? = w.heap[sb]?) : Sb w' sb n gx gy ev to us := e.trans h
theorem Sb.il {w : World} {sb n gx gy : Nat} {ev : Value} {to : Nat → Int} {us : Nat → Bool} (h : Sb w sb n gx gy ev to us) {L : List Int} (hl : L.length ≤ 15) (hto : ∀ k, k < L.length → to k = nthI L k) : Il w (some ⟨sb, 3, none⟩) L :=
  .inr ⟨sb, 3, rfl, h.lt, fun k hk => by rw [h.c_to (by omega), hto k hk]⟩
theorem Gr.far {w : World} {g : Nat} {G : Nat → Int} (h : Gr w g G) {p : Addr} (hne : p.block ≠ g) (u : Value) : Gr (w.setCell p u) g G := (Below.heap_setCell w p u g (fun e => hne e.symm)).trans h

end Go.Proofs.Ytgbkonnmjmlalaa

/- Contract of the reference's table of third points; conditions: stated in it. -/
namespace Go.Proofs.Ytgbkonnmjmlalaa
open Go.RowKit
set_option maxHeartbeats 1000000
set_option maxRecDepth 100000
set_option linter.unusedSimpArgs false
set_option linter.unusedVariables false

def tP (b : Blk) (j : Nat) (F : Nat → Int) : Nat → Int :=
  upd (upd F (16 * (el b j).toNat + (el b ((j + 1) % 3)).toNat) (el b ((j + 2) % 3))) (16 * (el b ((j + 1) % 3)).toNat + (el b j).toNat) (el b ((j + 2) % 3))
def tPs (b : Blk) (F : Nat → Int) : Nat → Nat → Int
  | 0 => F
  | j + 1 => tP b j (tPs b F j)
def tabN (xs : List Blk) : Nat → Nat → Int
  | 0 => fun _ => -1
  | k + 1 => tPs (nth xs k) (tabN xs k) 3
theorem tP_zero (b : Blk) (F : Nat → Int) : tP b 0 F = upd (upd F (16 * b.1.toNat + b.2.1.toNat) b.2.2) (16 * b.2.1.toNat + b.1.toNat) b.2.2 := rfl
theorem tP_one (b : Blk) (F : Nat → Int) : tP b 1 F = upd (upd F (16 * b.2.1.toNat + b.2.2.toNat) b.1) (16 * b.2.2.toNat + b.2.1.toNat) b.1 := rfl
theorem tP_two (b : Blk) (F : Nat → Int) : tP b 2 F = upd (upd F (16 * b.2.2.toNat + b.1.toNat) b.2.1) (16 * b.1.toNat + b.2.2.toNat) b.2.1 := rfl
theorem tPs_cell (F : Nat → Int) {b : Blk} (hg : goodB 15 b = true) {p q : Nat} (hp : p < 15) (hq : q < 15) :
    tPs b F 3 (16 * p + q) = if inB b p q = true then sumB b - p - q else F (16 * p + q) := by
  obtain ⟨x, y, z⟩ := b
  have hb := good_bd hg
  dsimp only at hb
  have key : ∀ a c : Int, 0 ≤ a → 0 ≤ c → c < 15 → ((16 * p + q = 16 * a.toNat + c.toNat) ↔ ((p : Int) = a ∧ (q : Int) = c)) := by
    intro a c _ _ _; omega
  show tP (x, y, z) 2 (tP (x, y, z) 1 (tP (x, y, z) 0 F)) (16 * p + q) = _
  rw [tP_zero, tP_one, tP_two]
  simp only [upd]
  simp only [key x y (by omega) (by omega) (by omega), key y x (by omega) (by omega) (by omega), key y z (by omega) (by omega) (by omega), key z y (by omega) (by omega) (by omega), key z x (by omega) (by omega) (by omega), key x z (by omega) (by omega) (by omega)]
  have hin : inB (x, y, z) p q = true ↔ (p : Int) ≠ q ∧ (x = p ∨ y = p ∨ z = p) ∧ (x = q ∨ y = q ∨ z = q) := by rw [inB_iff, has_iff, has_iff]
  have hsum : sumB (x, y, z) = x + y + z := rfl
  rw [hsum]
  by_cases h : inB (x, y, z) p q = true
  · rw [if_pos h]
    have h2 := hin.1 h
    clear hin h hsum key hg
    (repeat' split) <;> omega
  · rw [if_neg h]
    have h2 : ¬ ((p : Int) ≠ q ∧ (x = p ∨ y = p ∨ z = p) ∧ (x = q ∨ y = q ∨ z = q)) := fun h3 => h (hin.2 h3)
    clear hin h hsum key hg
    rw [if_neg (by omega), if_neg (by omega), if_neg (by omega), if_neg (by omega), if_neg (by omega), if_neg (by omega)]
theorem tabN_grid {v : Int} {xs : List Blk} (hs : isSys v xs) : ∀ k, k ≤ xs.length → ∀ p q : Nat, p < 15 → q < 15 → tabN xs k (16 * p + q) = gridN xs k (p * 15 + q) := by
  intro k
  induction k with
  | zero => intro _ p q _ _; rfl
  | succ k ih =>
    intro hk p q hp hq
    have hg := good_mono (hs.2.2.1 k hk).1 hs.1.2
    have h := putG_cell (gridN xs k) hg (p := p) (q := q) (by omega) (by omega) (by omega) true
    simp only [Int.toNat_natCast] at h
    rw [gridN, h, ← ih (by omega) p q hp hq, tabN, tPs_cell _ hg hp hq]
    rfl

theorem l06Table_any (v : Int) (A : Option Addr) (c : Nat) (xs : List Blk) (w : World) (hA : Bl w A xs) (hl : xs.length ≤ 1048576) (hs : isSys v xs) :
    Calls Try.prog 101 #[.agg #[.int .i64 v, .slice A xs.length c]] w fun e w' => ∃ g, e = .returned (.slice (some ⟨g, 0, none⟩) 256 256) ∧ w.heap.size ≤ g ∧ Va w' g 256 (tabN xs xs.length) ∧ Below w.heap.size w w' := by
  obtain ⟨ni0, hni, hni0, hni1, hni2⟩ := info_parts infoInt'
  have HS := Lib.hid hs; clear hs
  have HA := Lib.hid hA; clear hA
  have HR := Lib.hid (Row.box w 30 (.int .i64 v) (.slice A xs.length c))
  have HW := Lib.hid (below_alloc w (.cells #[.int .i64 v, .slice A xs.length c] 30))
  go_enter Try.func101, Try.ntmps101
  go_wp2_with (at_make; refine wpList_make_full _ rfl _ _ 39 rfl (w.heap.size + 1) 2 ni0 _ 1 Try.underlying39 hni hni0 hni1 .i64 .i64 _ _ 256 rfl rfl rfl rfl (by rw [hni2]; omega) (by unfold maxLen; omega) (by simp) ?_; intro w0 hown0 hgrow0)
  simp only [World.size_alloc] at hown0
  have HV : Hid (Va w0 (w.heap.size + 1) 256 (fun _ => 0)) := Va.make hown0
  have HB0 : Hid (Below w.heap.size w w0) := below_grown HW.out hgrow0 (fun k hk => by cases hk)
  have HR0 := Lib.hid (HR.out.grown hgrow0 (by simp))
  clear hown0 hgrow0
  go_loopw [4] (fun i wr => ∃ k : Nat, k ≤ 256 ∧ i = .int .i64 k ∧ Hid (Below w.heap.size w wr ∧ Row wr w.heap.size 30 #[.int .i64 v, .slice A xs.length c] ∧ Va wr (w.heap.size + 1) 256 (fun i => if i < k then -1 else 0))) (fun i _ => 256 - (intOf i).toNat)
  case atStart => exact ⟨0, by omega, rfl, HB0.out, HR0.out, HV.out.ext fun i hi => by simp⟩
  case round =>
    obtain ⟨k, hk, rfl, HC⟩ := hrel
    by_cases hlt : k < 256
    · have f0 := HC.out.2.2.cell hlt
      have f1 := HC.out.2.2.frozen k
      have hsz := HC.out.2.2.lt
      go_wp2
      go_roundw
      case rel => exact ⟨k + 1, by omega, by go_num, HC.out.1.setCell (p := ⟨w.heap.size + 1, k, none⟩) (by simp) _, HC.out.2.1.far (p := ⟨w.heap.size + 1, k, none⟩) (by simp) _, (HC.out.2.2.set k (-1)).ext fun i hi => by simp only [upd]; (repeat' split) <;> omega⟩
      case measure => simp [intOf]; omega
    · obtain rfl : k = 256 := by omega
      go_wp2
      obtain ⟨wo, rfl⟩ : ∃ wo : World, wo = wr := ⟨_, rfl⟩
      go_loopw [5] (fun i wr => ∃ k : Nat, k ≤ xs.length ∧ i = .int .i64 k ∧ Hid (Below w.heap.size w wr ∧ Row wr w.heap.size 30 #[.int .i64 v, .slice A xs.length c] ∧ Va wr (w.heap.size + 1) 256 (tabN xs k))) (fun i _ => xs.length - (intOf i).toNat)
      case atStart => exact ⟨0, by omega, rfl, HC.out.1, HC.out.2.1, HC.out.2.2.ext fun i hi => by rw [if_pos hi]; rfl⟩
      case round =>
        clear HC
        obtain ⟨k, hk, rfl, HC⟩ := hrel
        obtain ⟨c0, c1⟩ := HC.out.2.1.c2
        have hsz := HC.out.2.1.lt
        by_cases hlt : k < xs.length
        · go_wp2
          clear c0 c1 hsz
          obtain ⟨wo2, rfl⟩ : ∃ wo2 : World, wo2 = wr := ⟨_, rfl⟩
          go_loopw [6] (fun i wr => ∃ j : Nat, j ≤ 3 ∧ i = .int .i64 j ∧ Hid (Below w.heap.size w wr ∧ Row wr w.heap.size 30 #[.int .i64 v, .slice A xs.length c] ∧ Va wr (w.heap.size + 1) 256 (tPs (nth xs k) (tabN xs k) j))) (fun i _ => 3 - (intOf i).toNat)
          case atStart => exact ⟨0, by omega, rfl, HC.out⟩
          case round =>
            clear HC
            obtain ⟨j, hj, rfl, HC⟩ := hrel
            obtain ⟨c0, c1⟩ := HC.out.2.1.c2
            have hsz := HC.out.2.1.lt
            by_cases hlt2 : j < 3
            · obtain ⟨b1, o1, hA1, hb1, p0, p1, p2⟩ := (HA.out.below HC.out.1).at_ hlt
              subst hA1
              have hgb := good_bd (good_mono (HS.out.2.2.1 k hlt).1 HS.out.1.2)
              have hvz := HC.out.2.2.lt
              generalize hX : nth xs k = b at *
              obtain ⟨x, y, z⟩ := b
              dsimp only at p0 p1 p2 hgb
              obtain ⟨x, rfl⟩ := Int.eq_ofNat_of_zero_le hgb.1
              obtain ⟨y, rfl⟩ := Int.eq_ofNat_of_zero_le (by omega : 0 ≤ y)
              obtain ⟨z, rfl⟩ := Int.eq_ofNat_of_zero_le (by omega : 0 ≤ z)
              have q1 : x < y := by omega
              have q2 : y < z := by omega
              have q3 : z < 15 := by omega
              have HX := Lib.hid hX
              clear hgb hX
              obtain rfl | rfl | rfl : j = 0 ∨ j = 1 ∨ j = 2 := by omega
              · have f0 := HC.out.2.2.cell (i := 16 * x + y) (by omega)
                have f1 := HC.out.2.2.frozen (16 * x + y)
                have f2 := HC.out.2.2.cell (i := 16 * y + x) (by omega)
                have f3 := HC.out.2.2.frozen (16 * y + x)
                have f4 : 16 * x + y < 256 := by omega
                have f5 : 16 * y + x < 256 := by omega
                go_wp2
                go_quiet (fail)
                go_wp2
                go_roundw
                case rel => exact ⟨1, by omega, rfl, ((below_drewN HC.out.1 _).setCell (p := ⟨w.heap.size + 1, 16 * x + y, none⟩) (by simp) _).setCell (p := ⟨w.heap.size + 1, 16 * y + x, none⟩) (by simp) _, ((Row.below HC.out.2.1 (below_drewN (Below.refl _ _) _)).far (p := ⟨w.heap.size + 1, 16 * x + y, none⟩) (by simp) _).far (p := ⟨w.heap.size + 1, 16 * y + x, none⟩) (by simp) _, ((Va.below HC.out.2.2 (below_drewN (Below.refl _ _) _)).set (16 * x + y) z).set (16 * y + x) z⟩
                case measure => simp [intOf]
              · have f0 := HC.out.2.2.cell (i := 16 * y + z) (by omega)
                have f1 := HC.out.2.2.frozen (16 * y + z)
                have f2 := HC.out.2.2.cell (i := 16 * z + y) (by omega)
                have f3 := HC.out.2.2.frozen (16 * z + y)
                have f4 : 16 * y + z < 256 := by omega
                have f5 : 16 * z + y < 256 := by omega
                go_wp2
                go_quiet (fail)
                go_wp2
                go_roundw
                case rel => exact ⟨2, by omega, rfl, ((below_drewN HC.out.1 _).setCell (p := ⟨w.heap.size + 1, 16 * y + z, none⟩) (by simp) _).setCell (p := ⟨w.heap.size + 1, 16 * z + y, none⟩) (by simp) _, ((Row.below HC.out.2.1 (below_drewN (Below.refl _ _) _)).far (p := ⟨w.heap.size + 1, 16 * y + z, none⟩) (by simp) _).far (p := ⟨w.heap.size + 1, 16 * z + y, none⟩) (by simp) _, ((Va.below HC.out.2.2 (below_drewN (Below.refl _ _) _)).set (16 * y + z) x).set (16 * z + y) x⟩
                case measure => simp [intOf]
              · have f0 := HC.out.2.2.cell (i := 16 * z + x) (by omega)
                have f1 := HC.out.2.2.frozen (16 * z + x)
                have f2 := HC.out.2.2.cell (i := 16 * x + z) (by omega)
                have f3 := HC.out.2.2.frozen (16 * x + z)
                have f4 : 16 * z + x < 256 := by omega
                have f5 : 16 * x + z < 256 := by omega
                go_wp2
                go_quiet (fail)
                go_wp2
                go_roundw
                case rel => exact ⟨3, by omega, rfl, ((below_drewN HC.out.1 _).setCell (p := ⟨w.heap.size + 1, 16 * z + x, none⟩) (by simp) _).setCell (p := ⟨w.heap.size + 1, 16 * x + z, none⟩) (by simp) _, ((Row.below HC.out.2.1 (below_drewN (Below.refl _ _) _)).far (p := ⟨w.heap.size + 1, 16 * z + x, none⟩) (by simp) _).far (p := ⟨w.heap.size + 1, 16 * x + z, none⟩) (by simp) _, ((Va.below HC.out.2.2 (below_drewN (Below.refl _ _) _)).set (16 * z + x) y).set (16 * x + z) y⟩
                case measure => simp [intOf]
            · obtain rfl : j = 3 := by omega
              go_wp2
              go_roundw
              case rel => exact ⟨k + 1, by omega, by go_num, HC.out⟩
              case measure => simp [intOf]; omega
        · obtain rfl : k = xs.length := by omega
          go_wp2
          go_ret
          exact ⟨_, rfl, by omega, HC.out.2.2, HC.out.1⟩

end Go.Proofs.Ytgbkonnmjmlalaa

/- Contracts of the reference's search for renumberings; conditions: stated in each. -/
namespace Go.Proofs.Ytgbkonnmjmlalaa
open Go.RowKit
set_option maxHeartbeats 1000000
set_option maxRecDepth 100000
set_option linter.unusedSimpArgs false
set_option linter.unusedVariables false

theorem l06Around_any (n : Nat) (T1 T2 : Nat → Nat → Nat) (A : Option Addr) (c : Nat) (L : List Int) (w : World) (hA : Il w A L) (hV : Val n T1 T2 L) (hl : L.length = n) (hn : 0 < n) (h15 : n ≤ 15) :
    Calls Try.prog 123 #[.slice A L.length c] w fun e w' => e = .returned (.bool (goB L)) ∧ w = w' := by
  have HA := Lib.hid hA; have HV := Lib.hid hV
  have HLT : Hid (∀ k, itN L k < n) := itN_lt hV hl hn
  have HAT : Hid (∀ k, nthI L (itN L k) = (itN L (k + 1) : Nat)) := fun k => by rw [itN_succ]; exact (hV.rng _ (by rw [hl]; exact itN_lt hV hl hn k)).2
  have HGO := Lib.hid (goB_iff (L := L))
  obtain ⟨b1, o1, hA1, hb1, p0⟩ := hA.at_ (k := 0) (by omega)
  have e0 := HAT.out 0
  rw [itN_zero] at e0
  rw [e0, Nat.add_zero] at p0
  subst hA1
  clear hA hV e0
  subst hl
  generalize itN L = it at *
  go_enter Try.func123, Try.ntmps123
  go_wp2
  clear p0
  go_loop [3, 4] (fun a i => ∃ k : Nat, 1 ≤ k ∧ k ≤ L.length ∧ i = .int .i64 k ∧ a = .int .i64 (it k : Nat) ∧ Hid (∀ j, 1 ≤ j → j < k → it j ≠ 0)) (fun _ i => L.length - (intOf i).toNat)
  case atStart => exact ⟨1, by omega, by omega, rfl, rfl, fun j h1 h2 => by omega⟩
  case round =>
    obtain ⟨k, hk1, hk, rfl, rfl, HC⟩ := hrel
    have HLk := Lib.hid (HLT.out k)
    have HAk := HAT.out k
    by_cases hlt : k < L.length
    · by_cases hz : it k = 0
      · have hz' : (((it k : Nat) : Int) == 0) = true := by simp [hz]
        have HZ := Lib.hid hz; clear hz HAk
        go_wp2
        go_ret
        refine ⟨ret_bool ?_, rfl⟩
        symm
        rw [← Bool.not_eq_true, HGO.out]
        rintro ⟨h1, _⟩
        exact h1 k hk1 hlt HZ.out
      · have hz' : (((it k : Nat) : Int) == 0) = false := by simp [hz]
        have HZ := Lib.hid hz; clear hz
        obtain ⟨b2, o2, hA2, hb2, q0⟩ := HA.out.at_ (k := it k) HLk.out
        simp only [Option.some.injEq, Addr.mk.injEq] at hA2
        obtain ⟨rfl, rfl, -⟩ := hA2
        rw [HAk] at q0
        have hlk := HLk.out
        clear HAk
        go_wp2
        go_round
        case rel =>
          refine ⟨k + 1, by omega, by omega, by go_num, rfl, fun j h1 h2 => ?_⟩
          by_cases e : j = k
          · subst e; exact HZ.out
          · exact HC.out j h1 (by omega)
        case measure => simp [intOf]; omega
    · obtain rfl : k = L.length := by omega
      clear HAk
      go_wp2
      go_ret
      refine ⟨ret_bool ?_, rfl⟩
      rw [Bool.eq_iff_iff, HGO.out]
      constructor
      · intro h; exact ⟨HC.out, by simpa using h⟩
      · rintro ⟨_, h⟩; simpa using h

noncomputable def okA (ar : Bool) (L : List Int) : Bool := if ar = true then goB L else true
theorem go6_zero (n s g1 g2 b1 b2 most : Nat) (ar : Bool) (T1 T2 : Nat → Nat → Nat) (hn0 : 0 < n) (hn : n ≤ 15) (hsb : s < b2) (hmost : most ≤ 1000000)
    (L : List Int) (F : List (List Int)) (u un : Value) (bl : Nat) (used : Int) (w : World) (hL : L.length = n) (hv : Val n T1 T2 L) (hF : F.length < most) (hG : Gb w s g1 g2 n most u ar) (hP : LLp w b1 b2 u F) (hR : Ro w bl un L)
    (h1 : un.ownBlock ≠ some s) (h2 : ∀ b, un.ownBlock = some b → u.ownBlock ≠ some b) (h3 : u.ownBlock ≠ some s) (hb2 : b2 ≤ w.heap.size) (hb1 : b1 ≤ b2) :
    Calls Try.prog 102 #[.pointer (some ⟨s, 0, none⟩), un, .int .i64 used] w fun e w' => ∃ u', e = .returned (.tuple #[]) ∧ Gb w' s g1 g2 n most u' ar ∧ LLp w' b1 b2 u' (takeB F most ([L].filter (okA ar))) ∧ Gs w w' s u u' := by
  obtain ⟨li0, hli, hli0, hli1, hli2⟩ := info_parts infoList'
  have HG := Lib.hid hG; have HP := Lib.hid hP; have HR := Lib.hid hR; have HV := Lib.hid hv
  obtain ⟨c0, c1, c2, c3, c4, c5⟩ := hG.c6
  have hsz := hG.lt
  obtain ⟨B, d, hun, hIL, _⟩ := hR.il
  subst hun
  have HIL := Lib.hid hIL
  clear hG hP hR hv hIL
  have i1 : (L.length : Int) = (n : Int) := by omega
  subst hL
  cases ar
  · go_enter Try.func102, Try.ntmps102
    go_wp2
    clear c0 c1 c2 c3 c5
    go_region_law (first
      | (go_simp; go_at_call 114
         refine (l01Own_any _ bl L _ (HR.out.below (below_drew _)) (by omega)).mono ?_
         rintro e w1 ⟨r, rfl, hr, hb⟩
         have HB1 : Hid (Below w.heap.size w w1) := below_up (below_drew w) hb
         obtain ⟨C, f, rfl⟩ := own_slice hr
         have HO : Hid (Ro w1 b2 (.slice C L.length f) L) := own_base hr (by simpa using hb2)
         have HF : Hid (∀ b, (Value.slice C L.length f).ownBlock = some b → u.ownBlock ≠ some b) := by
           intro b e e2
           have := (hr.lt b e).1
           have := (HP.out.lt b e2).2
           simp at *; omega
         obtain ⟨vs_, ho_, hi_⟩ := HP.out.below HB1.out
         have hvl_ : vs_.length = F.length := by simpa using ho_.1
         have HOO := Lib.hid ho_; have HII := Lib.hid hi_
         have HG1 := Lib.hid (HG.out.below HB1.out)
         have hs1 := HB1.out.size
         have d4 := HG1.out.c6.2.2.2.2.1
         have hz1 := HG1.out.lt
         clear hr hb ho_ hi_)
      | (refine step_append_at _ (by rfl) _ _ 46 (by rfl) b1 39 li0 (.slice none 0 0) 1 24 Try.underlying46 hli hli0 hli1 hli2 rfl (by decide) _ _ _ (by rfl) (HOO.out.alloc _) ⟨w1.heap.size, 0, none⟩ 1 1 [.slice C L.length f] (by rfl) rfl (cells_newH (cw := w1) (by simp)) (by simp [Value.oneCell']) (by unfold maxLen; omega) (by omega) (by simp; omega) ?_
         intro v2 w2 hown2 hg2 hat2
         obtain ⟨A2, k2, rfl⟩ := own_slice hown2
         have HP2 := Lib.hid (LLp.snoc HII.out hvl_ HO.out HF.out (below_alloc _ _) hg2 hown2 hat2)
         have HG2 : Hid (Gb w2 s g1 g2 L.length most u false) := Row.grown (HG1.out.below (below_alloc _ _)) hg2 h3
         have HGs : Hid (Gs w w2 s u (.slice A2 (F.length + 1) k2)) := ((Gs.refl w s u).below (below_up HB1.out (below_alloc _ _))).grown hg2 (by rcases hat2 with h | h; exact .inl h; exact .inr ⟨_, h, by simp⟩)
         have g4 := HG2.out.c6.2.2.2.2.1
         have f4 := HG2.out.frozen 4
         have hs2 := HG2.out.lt
         clear hown2 hg2 hat2))
    all_goals
      have HTK : Hid (takeB F most ([L].filter (okA false)) = F ++ [L]) := take_one hF L
      have hne := HGs.out.ne hsz h3
      have HPS := Lib.hid (HP2.out.grown (grown_set (grown_refl w2 (some s)) 4 (.slice A2 (F.length + 1) k2)) hsb hne)
      go_wp2
      refine bodyPost_ret (results_none rfl _ _ _) rfl ?_
      exact ⟨_, rfl, HG2.out.set _, by rw [HTK.out]; exact HPS.out, HGs.out.set 4 _⟩
  · cases hg : goB L
    · have HGO := Lib.hid hg
      go_enter Try.func102, Try.ntmps102
      go_wp2_with fail
      refine (l06Around_any L.length T1 T2 B d L _ HIL.out HV.out rfl hn0 hn).mono ?_
      rw [hg]
      rintro e w' ⟨rfl, rfl⟩
      clear hg
      have HTK : Hid (takeB F most ([L].filter (okA true)) = F) := by
        unfold Hid; rw [List.filter_cons_of_neg (by simp [okA, HGO.out]), List.filter_nil, take_nil]
      go_wp2
      refine bodyPost_ret (results_none rfl _ _ _) rfl ?_
      exact ⟨_, rfl, HG.out, by rw [HTK.out]; exact HP.out, Gs.refl _ _ _⟩
    · have HGO := Lib.hid hg
      go_enter Try.func102, Try.ntmps102
      go_wp2_with fail
      refine (l06Around_any L.length T1 T2 B d L _ HIL.out HV.out rfl hn0 hn).mono ?_
      rw [hg]
      rintro e w' ⟨rfl, rfl⟩
      clear hg
      go_wp2
      clear c0 c1 c2 c3 c5
      go_region_law (first
        | (go_simp; go_at_call 114
           refine (l01Own_any _ bl L _ (HR.out.below (below_drew _)) (by omega)).mono ?_
           rintro e w1 ⟨r, rfl, hr, hb⟩
           have HB1 : Hid (Below w.heap.size w w1) := below_up (below_drew w) hb
           obtain ⟨C, f, rfl⟩ := own_slice hr
           have HO : Hid (Ro w1 b2 (.slice C L.length f) L) := own_base hr (by simpa using hb2)
           have HF : Hid (∀ b, (Value.slice C L.length f).ownBlock = some b → u.ownBlock ≠ some b) := by
             intro b e e2
             have := (hr.lt b e).1
             have := (HP.out.lt b e2).2
             simp at *; omega
           obtain ⟨vs_, ho_, hi_⟩ := HP.out.below HB1.out
           have hvl_ : vs_.length = F.length := by simpa using ho_.1
           have HOO := Lib.hid ho_; have HII := Lib.hid hi_
           have HG1 := Lib.hid (HG.out.below HB1.out)
           have hs1 := HB1.out.size
           have d4 := HG1.out.c6.2.2.2.2.1
           have hz1 := HG1.out.lt
           clear hr hb ho_ hi_)
        | (refine step_append_at _ (by rfl) _ _ 46 (by rfl) b1 39 li0 (.slice none 0 0) 1 24 Try.underlying46 hli hli0 hli1 hli2 rfl (by decide) _ _ _ (by rfl) (HOO.out.alloc _) ⟨w1.heap.size, 0, none⟩ 1 1 [.slice C L.length f] (by rfl) rfl (cells_newH (cw := w1) (by simp)) (by simp [Value.oneCell']) (by unfold maxLen; omega) (by omega) (by simp; omega) ?_
           intro v2 w2 hown2 hg2 hat2
           obtain ⟨A2, k2, rfl⟩ := own_slice hown2
           have HP2 := Lib.hid (LLp.snoc HII.out hvl_ HO.out HF.out (below_alloc _ _) hg2 hown2 hat2)
           have HG2 : Hid (Gb w2 s g1 g2 L.length most u true) := Row.grown (HG1.out.below (below_alloc _ _)) hg2 h3
           have HGs : Hid (Gs w w2 s u (.slice A2 (F.length + 1) k2)) := ((Gs.refl w s u).below (below_up HB1.out (below_alloc _ _))).grown hg2 (by rcases hat2 with h | h; exact .inl h; exact .inr ⟨_, h, by simp⟩)
           have g4 := HG2.out.c6.2.2.2.2.1
           have f4 := HG2.out.frozen 4
           have hs2 := HG2.out.lt
           clear hown2 hg2 hat2))
      all_goals
        have HTK : Hid (takeB F most ([L].filter (okA true)) = F ++ [L]) := by
          unfold Hid; rw [List.filter_cons_of_pos (by simp [okA, HGO.out]), List.filter_nil]; exact take_one hF L
        have hne := HGs.out.ne hsz h3
        have HPS := Lib.hid (HP2.out.grown (grown_set (grown_refl w2 (some s)) 4 (.slice A2 (F.length + 1) k2)) hsb hne)
        go_wp2
        refine bodyPost_ret (results_none rfl _ _ _) rfl ?_
        exact ⟨_, rfl, HG2.out.set _, by rw [HTK.out]; exact HPS.out, HGs.out.set 4 _⟩

end Go.Proofs.Ytgbkonnmjmlalaa
