/- Plain laws and contracts, part 9; conditions: stated in each. -/
import Derived.Test.YtabgmjakkgalgaaB1
import Derived.Test.YtabgmjakkgalgaaB2
import Derived.Test.YtabgmjakkgalgaaB3
import Derived.Test.YtabgmjakkgalgaaB8
set_option linter.unusedSimpArgs false
set_option linter.unusedVariables false
/- Plain laws: lists in order with one more, each once; sets of disjoint blocks are found once; conditions: stated in each. -/
namespace Go.Proofs.Ytabgmjakkgalgaa
set_option linter.unusedSimpArgs false
set_option linter.unusedVariables false

/-- a list comes before another one: from the i-th number on -/
def lessF (a b : List Int) : Nat → Nat → Bool
  | 0, _ => decide (a.length < b.length)
  | f + 1, i => if i < a.length ∧ i < b.length then (if nthI a i ≠ nthI b i then decide (nthI a i < nthI b i) else lessF a b f (i + 1)) else decide (a.length < b.length)
def lessL (a b : List Int) : Bool := lessF a b a.length 0
def sameL (a b : List Int) : Bool := !lessL a b && !lessL b a
theorem lessF_eq {a b : List Int} : ∀ f i, a.length ≤ i + f → lessF a b f i = false → ∀ g, b.length ≤ i + g → lessF b a g i = false → (∀ k, k < i → nthI a k = nthI b k) → i ≤ a.length → i ≤ b.length → a.length = b.length ∧ ∀ k, k < a.length → nthI a k = nthI b k := by
  intro f
  induction f with
  | zero =>
    intro i hf h g hg h2 hp ha hb
    rw [lessF] at h
    simp only [decide_eq_false_iff_not] at h
    have hi : i = a.length := by omega
    cases g with
    | zero => exact ⟨by omega, fun k hk => hp k (by omega)⟩
    | succ g =>
      rw [lessF, if_neg (by omega)] at h2
      simp only [decide_eq_false_iff_not] at h2
      exact ⟨by omega, fun k hk => hp k (by omega)⟩
  | succ f ih =>
    intro i hf h g hg h2 hp ha hb
    rw [lessF] at h
    by_cases hc : i < a.length ∧ i < b.length
    · rw [if_pos hc] at h
      cases g with
      | zero => omega
      | succ g =>
        rw [lessF, if_pos ⟨hc.2, hc.1⟩] at h2
        by_cases he : nthI a i = nthI b i
        · rw [if_neg (by simpa using he)] at h
          rw [if_neg (by simpa using he.symm)] at h2
          exact ih (i + 1) (by omega) h g (by omega) h2 (fun k hk => by
            by_cases e : k = i
            · rw [e]; exact he
            · exact hp k (by omega)) (by omega) (by omega)
        · rw [if_pos he] at h
          rw [if_pos (fun e => he e.symm)] at h2
          simp only [decide_eq_false_iff_not] at h h2
          omega
    · rw [if_neg hc] at h
      simp only [decide_eq_false_iff_not] at h
      cases g with
      | zero =>
        rw [lessF] at h2
        simp only [decide_eq_false_iff_not] at h2
        exact ⟨by omega, fun k hk => hp k (by omega)⟩
      | succ g =>
        rw [lessF, if_neg (by omega)] at h2
        simp only [decide_eq_false_iff_not] at h2
        exact ⟨by omega, fun k hk => hp k (by omega)⟩
theorem sameL_eq {a b : List Int} (h : sameL a b = true) : a = b := by
  unfold sameL lessL at h
  simp only [Bool.and_eq_true, Bool.not_eq_true'] at h
  obtain ⟨h1, h2⟩ := lessF_eq a.length 0 (by omega) h.1 b.length (by omega) h.2 (fun k hk => by omega) (by omega) (by omega)
  apply List.ext_getElem h1
  intro k k1 k2
  have := h2 k k1
  unfold nthI at this
  simpa [k1, k2] using this
/-- where a list is put in -/
def putAt (L : List (List Int)) (y : List Int) : Nat → Nat
  | 0 => 0
  | a + 1 => if lessL y (nthLL L a) = true then putAt L y a else a + 1
theorem putAt_le (L : List (List Int)) (y : List Int) : ∀ a, putAt L y a ≤ a := by
  intro a
  induction a with
  | zero => exact Nat.le_refl _
  | succ a ih => rw [putAt]; split <;> omega
def putL (L : List (List Int)) (y : List Int) : List (List Int) :=
  if 0 < putAt L y L.length ∧ sameL (nthLL L (putAt L y L.length - 1)) y = true then L else L.take (putAt L y L.length) ++ [y] ++ L.drop (putAt L y L.length)
theorem putL_mem {L : List (List Int)} {y x : List Int} (h : x ∈ putL L y) : x = y ∨ x ∈ L := by
  unfold putL at h
  split at h
  · exact .inr h
  · rw [List.mem_append, List.mem_append, List.mem_singleton] at h
    rcases h with (h | h) | h
    · exact .inr (List.mem_of_mem_take h)
    · exact .inl h
    · exact .inr (List.mem_of_mem_drop h)
theorem putL_len {L : List (List Int)} {y : List Int} (h : y ∉ L) : (putL L y).length = L.length + 1 := by
  unfold putL
  have hle := putAt_le L y L.length
  rw [if_neg]
  · simp only [List.length_append, List.length_take, List.length_drop, List.length_singleton]; omega
  · rintro ⟨h1, h2⟩
    apply h
    rw [← sameL_eq h2]
    have h3 : putAt L y L.length - 1 < L.length := by omega
    have : nthLL L (putAt L y L.length - 1) = L[putAt L y L.length - 1] := by simp [nthLL, h3]
    rw [this]; exact List.getElem_mem h3
/-- lists put in one after another -/
def putS (xs : List (List Int)) : Nat → List (List Int)
  | 0 => []
  | k + 1 => putL (putS xs k) (nthLL xs k)
theorem putS_len {xs : List (List Int)} (hn : xs.Nodup) : ∀ k, k ≤ xs.length → (putS xs k).length = k ∧ ∀ x ∈ putS xs k, ∃ j, j < k ∧ x = nthLL xs j := by
  intro k
  induction k with
  | zero => intro _; exact ⟨rfl, fun x hx => by simp [putS] at hx⟩
  | succ k ih =>
    intro hk
    obtain ⟨h1, h2⟩ := ih (by omega)
    have hg : ∀ j (hj : j < xs.length), nthLL xs j = xs[j] := fun j hj => by simp [nthLL, hj]
    refine ⟨?_, fun x hx => ?_⟩
    · rw [putS, putL_len, h1]
      intro hm
      obtain ⟨j, hj, e⟩ := h2 _ hm
      rw [hg k (by omega), hg j (by omega)] at e
      exact (List.pairwise_iff_getElem.1 hn j k (by omega) (by omega) hj) e.symm
    · rw [putS] at hx
      rcases putL_mem hx with h | h
      · exact ⟨k, by omega, h⟩
      · obtain ⟨j, hj, e⟩ := h2 x h
        exact ⟨j, by omega, e⟩
/-- all that is found goes on from the list -/
theorem cls_pre {xs : List Blk} {all : Nat} : ∀ d now m, ∀ x ∈ clsL xs all d now m, now <+: x := by
  intro d
  induction d with
  | zero =>
    intro now m x hx
    rw [clsL] at hx
    split at hx
    · rw [List.mem_singleton] at hx; rw [hx]; exact List.prefix_refl _
    · simp at hx
  | succ d ih =>
    intro now m x hx
    rw [clsL] at hx
    split at hx
    · rw [List.mem_singleton] at hx; rw [hx]; exact List.prefix_refl _
    · obtain ⟨i, _, _, _, hx⟩ := loopL_mem hx
      exact (List.prefix_append _ _).trans (ih _ _ x hx)
theorem cls_nodup {xs : List Blk} {all : Nat} : ∀ d now m, (clsL xs all d now m).Nodup := by
  intro d
  induction d with
  | zero =>
    intro now m
    rw [clsL]
    split <;> simp
  | succ d ih =>
    intro now m
    rw [clsL]
    split
    · simp
    · have key : ∀ (p : Nat → Bool) k, (loopL (fun i => clsL xs all d (now ++ [(i : Int)]) (m ||| maskB (nth xs i))) p 0 k).Nodup := by
        intro p k
        induction k with
        | zero => simp [loopL]
        | succ k ihk =>
          rw [loopL, List.nodup_append]
          refine ⟨ihk, ?_, ?_⟩
          · split
            · exact ih _ _
            · simp
          · intro x hx y hy e
            subst e
            obtain ⟨i, _, hi, _, hx⟩ := loopL_mem hx
            split at hy
            · have h1 := cls_pre _ _ _ _ hx
              have h2 := cls_pre _ _ _ _ hy
              have h3 := List.prefix_of_prefix_length_le h1 h2 (by simp)
              have h4 := h3.eq_of_length (by simp)
              have h5 := List.append_cancel_left h4
              simp at h5
              omega
            · simp at hy
      exact key _ _

end Go.Proofs.Ytabgmjakkgalgaa

/- Lists of lists that share their lists' rows; conditions: none. -/
namespace Go.Proofs.Ytabgmjakkgalgaa
open Go.RowKit
set_option maxRecDepth 100000
set_option linter.unusedSimpArgs false
set_option linter.unusedVariables false

/-- rows of two types lie apart -/
theorem own_two {w : World} {b1 b2 s1 s2 n1 n2 : Nat} {t1 t2 : TypeId} {u v : Value} {xs ys : List Value} (h : w.ownsRow b1 t1 s1 u n1 xs) (k : w.ownsRow b2 t2 s2 v n2 ys) (ht : t1 ≠ t2) : ∀ b, v.ownBlock = some b → u.ownBlock ≠ some b := by
  intro b e
  rcases k.2 with ⟨rfl, _⟩ | ⟨g, cap, cur, rfl, _, hg, _⟩
  · simp [Value.ownBlock] at e
  · have e2 : g = b := by simpa [Value.ownBlock] using e
    subst e2
    exact own_typed h ⟨cur, hg⟩ ht
/-- u is a row of its own (above b1) of headers; the lists are rows (above b2) -/
def LLs (w : World) (b1 b2 : Nat) (u : Value) (ps : List (Value × List Int)) : Prop :=
  w.ownsRow b1 36 1 u ps.length (ps.map (·.1)) ∧ ∀ p ∈ ps, Ro w b2 p.1 p.2
theorem LLs.below {w w' : World} {b1 b2 : Nat} {u : Value} {ps : List (Value × List Int)} (h : LLs w b1 b2 u ps) (hb : Below w.heap.size w w') : LLs w' b1 b2 u ps := ⟨own_below h.1 hb, fun p hp => (h.2 p hp).below hb⟩
theorem LLs.slice {w : World} {b1 b2 : Nat} {u : Value} {ps : List (Value × List Int)} (h : LLs w b1 b2 u ps) : ∃ A c, u = .slice A ps.length c := own_slice h.1
theorem LLs.base {w : World} {b1 b2 c1 c2 : Nat} {u : Value} {ps : List (Value × List Int)} (h : LLs w b1 b2 u ps) (h1 : c1 ≤ b1) (h2 : c2 ≤ b2) : LLs w c1 c2 u ps := ⟨own_base h.1 h1, fun p hp => own_base (h.2 p hp) h2⟩
theorem LLs.nil (w : World) (b1 b2 : Nat) : LLs w b1 b2 (.slice none 0 0) [] := ⟨World.ownsRow_nil _ _ _ _, fun p hp => by simp at hp⟩
/-- the row of headers is written, the lists' rows are not -/
theorem LLs.grown {w w' : World} {b1 b2 c1 : Nat} {u v : Value} {ps qs : List (Value × List Int)} (h : LLs w b1 b2 u ps) (hg : w.grownBy w' u.ownBlock) (ho : w'.ownsRow c1 36 1 v qs.length (qs.map (·.1))) (hq : ∀ p ∈ qs, p ∈ ps ∨ Ro w b2 p.1 p.2) : LLs w' c1 b2 v qs := by
  refine ⟨ho, fun p hp => ?_⟩
  have hr : Ro w b2 p.1 p.2 := (hq p hp).elim (fun h2 => h.2 p h2) id
  exact hr.grown hg fun b e e2 => own_two h.1 hr (by decide) b e e2
theorem LLs.rd {w : World} {b1 b2 : Nat} {A : Option Addr} {n c : Nat} {ps : List (Value × List Int)} (h : LLs w b1 b2 (.slice A n c) ps) {k : Nat} (hk : k < ps.length) : ∃ g B d, A = some ⟨g, 0, none⟩ ∧ g < w.heap.size ∧ b1 ≤ g ∧ w.cell? ⟨g, k, none⟩ = some (.slice B (nthLL (ps.map (·.2)) k).length d) ∧ Il w B (nthLL (ps.map (·.2)) k) ∧ ps[k].1 = .slice B (nthLL (ps.map (·.2)) k).length d := by
  rcases h.1.2 with ⟨_, h0⟩ | ⟨g, cap, cur, hv, hb, hg, _, _, _, htk⟩
  · omega
  · simp only [Value.slice.injEq] at hv
    obtain ⟨rfl, -, -⟩ := hv
    have hr := h.2 ps[k] (List.getElem_mem hk)
    have e : nthLL (ps.map (·.2)) k = ps[k].2 := by simp [nthLL, hk]
    obtain ⟨B, d, e2, hI, _⟩ := hr.il
    refine ⟨g, B, d, rfl, Row.lt (w := w) (t := 36) (cur := cur) hg, hb, ?_, by rw [e]; exact hI, by rw [e, e2]⟩
    rw [Row.cell (w := w) (t := 36) (cur := cur) hg, ← Array.getElem?_toList]
    have h1 : (ps.map (·.1))[k]? = some ps[k].1 := by simp [hk]
    rw [← htk, List.getElem?_take_of_lt (by omega)] at h1
    rw [h1, e2, e]
theorem LLs.frozen {w : World} {b1 b2 g n c : Nat} {ps : List (Value × List Int)} (h : LLs w b1 b2 (.slice (some ⟨g, 0, none⟩) n c) ps) (i : Nat) : w.frozen? ⟨g, i, none⟩ = false := by
  obtain ⟨_, _, e⟩ := own_slice h.1
  simp only [Value.slice.injEq] at e
  obtain ⟨_, rfl, _⟩ := e
  exact World.ownsRow.frozenAt h.1 i
theorem LLs.form {w : World} {b1 b2 : Nat} {u : Value} {ps : List (Value × List Int)} (h : LLs w b1 b2 u ps) (hm : 0 < ps.length) : ∃ g c, u = .slice (some ⟨g, 0, none⟩) ps.length c ∧ b1 ≤ g ∧ g < w.heap.size := by
  rcases h.1.2 with ⟨_, h0⟩ | ⟨g, cap, cur, hv, hb, hg, _⟩
  · omega
  · exact ⟨g, cap, hv, hb, Row.lt (w := w) (t := 36) (cur := cur) hg⟩
/-- a header is written -/
theorem LLs.set {w : World} {b1 b2 g n c k : Nat} {ps : List (Value × List Int)} (h : LLs w b1 b2 (.slice (some ⟨g, 0, none⟩) n c) ps) (p : Value × List Int) (hp : Ro w b2 p.1 p.2) : LLs (w.setCell ⟨g, k, none⟩ p.1) b1 b2 (.slice (some ⟨g, 0, none⟩) n c) (ps.set k p) := by
  obtain ⟨_, _, e⟩ := own_slice h.1
  simp only [Value.slice.injEq] at e
  obtain ⟨_, rfl, _⟩ := e
  have hs := World.ownsRow.stored h.1 k p.1
  refine LLs.grown h hs.2 (by rw [List.length_set, List.map_set]; exact hs.1) fun q hq => ?_
  rcases List.mem_or_eq_of_mem_set hq with h1 | h1
  · exact .inl h1
  · exact .inr (by rw [h1]; exact hp)
/-- what is grown from u, then from what u has become -/
theorem grown_then {w a b : World} {u v : Value} (h : w.grownBy a u.ownBlock) (k : a.grownBy b v.ownBlock) (hat : v.ownBlock = u.ownBlock ∨ ∃ q, v.ownBlock = some q ∧ w.heap.size ≤ q) : w.grownBy b u.ownBlock := by
  refine ⟨k.os.trans h.os, k.tape.trans h.tape, k.output.trans h.output, Nat.le_trans h.size k.size, fun i hi hne => ?_⟩
  refine (k.block i (Nat.lt_of_lt_of_le hi h.size) fun e => ?_).trans (h.block i hi hne)
  rcases hat with e2 | ⟨q, e2, hq⟩
  · rw [e2] at e; exact hne e
  · rw [e2] at e; simp only [Option.some.injEq] at e; omega
theorem at_then {w a : World} {u v x : Value} (h : v.ownBlock = u.ownBlock ∨ ∃ q, v.ownBlock = some q ∧ w.heap.size ≤ q) (k : x.ownBlock = v.ownBlock ∨ ∃ q, x.ownBlock = some q ∧ a.heap.size ≤ q) (hz : w.heap.size ≤ a.heap.size) : x.ownBlock = u.ownBlock ∨ ∃ q, x.ownBlock = some q ∧ w.heap.size ≤ q := by
  rcases k with e | ⟨q, e, hq⟩
  · rcases h with e2 | ⟨q, e2, hq⟩
    · exact .inl (e.trans e2)
    · exact .inr ⟨q, e.trans e2, hq⟩
  · exact .inr ⟨q, e, by omega⟩
/-- a list with one thing in the middle -/
theorem midL_len {α : Type} {S : List α} {j : α} {t : Nat} : (S.take t ++ [j] ++ S.drop t).length = S.length + 1 := by
  simp only [List.length_append, List.length_take, List.length_drop, List.length_singleton]; omega
theorem midL_end {α : Type} {S : List α} {j b : α} {t : Nat} (ht : t ≤ S.length) : (S.take t ++ [j] ++ S.drop t).set t b = S.take t ++ [b] ++ S.drop t := by
  have hl : (S.take t).length = t := by rw [List.length_take]; omega
  have key : ∀ (A B : List α), (A ++ [j] ++ B).set A.length b = A ++ [b] ++ B := by
    intro A B
    induction A with
    | nil => rfl
    | cons a A ih => simp at ih ⊢
  have := key (S.take t) (S.drop t)
  rwa [hl] at this
theorem midL_back {α : Type} {S : List α} {j : α} {t : Nat} (ht : t < S.length) : (S.take (t + 1) ++ [j] ++ S.drop (t + 1)).set (t + 1) S[t] = S.take t ++ [S[t]] ++ S.drop t := by
  rw [midL_end (by omega), List.drop_eq_getElem_cons ht, ← List.take_append_getElem ht]
  simp
theorem midL_nth {α : Type} {S : List α} {j : α} {t i : Nat} (ht : t ≤ S.length) (hi : i < t) : (S.take t ++ [j] ++ S.drop t)[i]? = S[i]? := by
  rw [List.append_assoc, List.getElem?_append_left (by rw [List.length_take]; omega), List.getElem?_take_of_lt hi]

end Go.Proofs.Ytabgmjakkgalgaa

/- Contracts for CountDisjoint, of the reference and of the program; conditions: stated in each. -/
namespace Go.Proofs.Ytabgmjakkgalgaa
open Go.RowKit
set_option maxHeartbeats 400000
set_option maxRecDepth 100000
set_option linter.unusedSimpArgs false
set_option linter.unusedVariables false

noncomputable def cntR (v : Int) (xs : List Blk) (k : Int) : Int × Int := if isSysB v xs = true then (if 0 ≤ k ∧ k ≤ 5 then (((cntS xs k.toNat 0 0 : Nat) : Int), 0) else (0, 2)) else (0, 1)

theorem dis_count {v : Int} {xs : List Blk} (hs : isSys v xs) (d : Nat) : (disL xs d []).length = cntS xs d 0 0 := dis_len hs.2.2.1 d [] (fun k hk => by simp at hk)
theorem disTop_any (v : Int) (A : Option Addr) (c : Nat) (xs : List Blk) (d : Nat) (w : World) (hA : Bl w A xs) (hs : isSys v xs) (hd : d ≤ 5) :
    Calls Try.prog 35 #[.agg #[.int .i64 v, .slice A xs.length c], .slice none 0 0, .slice none 0 0, .int .i64 (d : Int)] w fun e w' => ∃ u, e = .returned u ∧ LLq w' w.heap.size u (disL xs d []) ∧ Below w.heap.size w w' := by
  have hAb : ∀ b, A.map Addr.block = some b → b < w.heap.size ∨ xs = [] := by
    intro b e
    rcases hA with rfl | ⟨b', o, rfl, hlt, _⟩
    · exact .inr rfl
    · simp only [Option.map_some, Option.some.injEq] at e; subst e; exact .inl hlt
  have h35 : 35 ^ d ≤ 35 ^ 5 := Nat.pow_le_pow_right (by omega) hd
  have h5 : 35 ^ 5 = 52521875 := by decide
  have h := disjoint_any v A c xs hs d d w.heap.size [] [] (.slice none 0 0) (.slice none 0 0) w (by simp) hd (Nat.le_refl _) hA hAb (LLq.nil _ _) (World.ownsRow_nil _ _ _ _) (fun k hk => by simp at hk) (fun b e => by simp [Value.ownBlock] at e) (by simp; omega)
  refine h.mono ?_
  rintro e w' ⟨u, rfl, hL, hG⟩
  exact ⟨u, rfl, by simpa using hL, hG.out (Nat.le_refl _) (fun b e => by simp [Value.ownBlock] at e)⟩

end Go.Proofs.Ytabgmjakkgalgaa

/- The contract of the reference's sets of disjoint blocks by the least point that is left; conditions: stated in it. -/
namespace Go.Proofs.Ytabgmjakkgalgaa
open Go.RowKit
set_option maxHeartbeats 4000000
set_option maxRecDepth 100000
set_option linter.unusedSimpArgs false
set_option linter.unusedVariables false

theorem cls_bd {xs : List Blk} (hx : xs.length ≤ 35) (all : Nat) : ∀ d now m, (clsL xs all d now m).length ≤ 35 ^ d := by
  intro d
  induction d with
  | zero => intro now m; rw [clsL]; split <;> simp
  | succ d ih =>
    intro now m
    rw [clsL]
    split
    · have : 0 < 35 ^ (d + 1) := Nat.pow_pos (by omega)
      simp; omega
    · rw [Nat.pow_succ, Nat.mul_comm]
      exact Nat.le_trans (loopL_bd (fun i => ih _ _) _) (Nat.mul_le_mul_right _ hx)
theorem bit_shr (s p : Nat) (hs : s < 32768) : (bits .and .i64 ((s : Int) / 2 ^ p) 1) = ((if s.testBit p = true then 1 else 0 : Nat) : Int) := by
  have e1 : (s : Int) / 2 ^ p = ((s / 2 ^ p : Nat) : Int) := by push_cast; rfl
  have hd : s / 2 ^ p < 4611686018427387904 := Nat.lt_of_le_of_lt (Nat.div_le_self _ _) (by omega)
  have e2 := bits_and_nat (s / 2 ^ p) 1 hd (by omega)
  rw [e1]
  show bits BinOp.and IntKind.i64 ((s / 2 ^ p : Nat) : Int) ((1 : Nat) : Int) = _
  rw [e2, Nat.and_one_is_mod, Nat.testBit_eq_decide_div_mod_eq]
  congr 1
  by_cases h : s / 2 ^ p % 2 = 1
  · rw [if_pos (by simpa using h)]; exact h
  · rw [if_neg (by simpa using h)]; omega
/-- the headers of one list behind those of another one, at a step of a region that draws -/
theorem step_append_hd {ops : Array Oper} {o : Oper} {a : Act} {K : Act → World → Prop} {Q : Exit → Act → World → Prop} {E : Prop} (W : World) (hgd : o.guard = none) (s x : Operand)
    (ho : o.op = .call { callee := .builtin .append, args := #[s, x], argTypes := #[53, 53] }) (base b2 b3 : Nat) (u r : Value) (ps qs : List (Value × List Int)) (hs : a.eval s = u) (hx : a.eval x = r) (hU : LLs W base b2 u ps) (hR : LLs W b3 b2 r qs) (hn0 : ps.length + qs.length ≤ 4000000000) (hbase : base ≤ W.heap.size)
    (h : ∀ v9 w9, LLs w9 base b2 v9 (ps ++ qs) → W.grownBy w9 u.ownBlock → (v9.ownBlock = u.ownBlock ∨ v9.ownBlock = some W.heap.size) → K (a.put o.dst v9) w9) : if Region.wanted o (yielded ops a.tmps) = true then Oper.wp Try.prog o a W K Q else E := by
  obtain ⟨li0, hli, hli0, hli1, hli2⟩ := info_parts infoList'
  by_cases h0 : qs.length = 0
  · have e : qs = [] := List.eq_nil_of_length_eq_zero h0
    subst e
    obtain ⟨A, c, rfl⟩ := hR.slice
    exact step_append_zero W hgd s x 53 ho base 36 li0 1 Try.underlying53 hli u ps.length _ hs hU.1 A c hx (h u W (by rw [List.append_nil]; exact hU) (grown_refl _ _) (.inl rfl))
  · obtain ⟨g, c, rfl, hg1, hg2⟩ := hR.form (by omega)
    refine step_append_at W hgd s x 53 ho base 36 li0 (.slice none 0 0) 1 24 Try.underlying53 hli hli0 hli1 hli2 rfl (by decide) u ps.length _ hs hU.1 ⟨g, 0, none⟩ qs.length c (qs.map (·.1)) hx (by simp) (World.ownsRow.cells hR.1 (by simp [Value.ownBlock])) (fun v hv => ?_) (by unfold maxLen; omega) (by omega) hbase fun v' w' h1 h2 h3 => ?_
    · obtain ⟨p, hp, rfl⟩ := List.mem_map.1 hv
      obtain ⟨A, c, e⟩ := own_slice (hR.2 p hp)
      rw [e]; rfl
    · exact h v' w' (hU.grown h2 (by rw [List.length_append, List.map_append]; exact h1) fun p hp => (List.mem_append.1 hp).imp id fun h4 => hR.2 p h4) h2 h3
theorem rises_asc {ns : List Int} {N : Int} (h : risesI ns N) : srtI ns = ns := by
  refine srtI_self ?_
  rw [List.pairwise_iff_getElem]
  intro i j hi hj hij
  have key : ∀ k, ∀ j, j < ns.length → i < j → j ≤ i + k → nthI ns i < nthI ns j := by
    intro k
    induction k with
    | zero => intro j _ h1 h2; omega
    | succ k ih =>
      intro j hj h1 h2
      have h3 := (h j hj).2 (by omega)
      by_cases e : j - 1 = i
      · rw [e] at h3; exact h3
      · have := ih (j - 1) (by omega) (by omega) (by omega); omega
  have := key (j - i) j hj hij (by omega)
  rw [nthI_get hi, nthI_get hj] at this
  unfold leI; simp only [decide_eq_true_eq]; omega
/-- a list of lists -/
def CLP (w : World) (L : List (List Int)) (e : Ending) (w' : World) : Prop := ∃ u ps, e = .returned u ∧ LLs w' w.heap.size w.heap.size u ps ∧ ps.map (·.2) = L ∧ Below w.heap.size w w'
theorem CLP.mk {w w' : World} {L : List (List Int)} {u : Value} {ps : List (Value × List Int)} (h : LLs w' w.heap.size w.heap.size u ps) (e : ps.map (·.2) = L) (hb : Below w.heap.size w w') : CLP w L (.returned u) w' := ⟨u, ps, rfl, h, e, hb⟩
/-- all points are there: one list -/
theorem clsEnd_any (v : Int) (A : Option Addr) (c : Nat) (xs : List Blk) (m : Nat) (now : List Int) (un : Value) (base : Nat) (w : World) (hr : risesI now xs.length) (hA : Bl w A xs) (hN : Ro w base un now) (hn : now.length ≤ 10) :
    Calls Try.prog 31 #[.agg #[.int .i64 v, .slice A xs.length c], un, .int .i64 (m : Int), .int .i64 (m : Int)] w (CLP w [now]) := by
  have HSI := Lib.hid (rises_asc hr)
  obtain ⟨B, d, rfl, hI, -⟩ := hN.il
  have HW := Lib.hid (below_alloc w (.cells #[.int .i64 v, .slice A xs.length c] 30))
  have HI := Lib.hid (hI.below HW.out)
  clear hr hN hI hA
  go_enter Try.func31, Try.ntmps31
  go_wp2_with fail
  refine (l03Asc_any B d now _ HI.out (by omega)).mono ?_
  rw [HSI.out]
  rintro e w1 ⟨r, rfl, hR, hb⟩
  obtain ⟨Br, dr, rfl⟩ := own_slice hR
  have HR : Hid (Ro w1 w.heap.size (.slice Br now.length dr) now) := own_base hR HW.out.size
  have HB := Lib.hid (below_up HW.out hb)
  clear hR hb
  have HBA := Lib.hid (below_up HB.out (below_alloc w1 (.cells #[.slice Br now.length dr] 36)))
  have HL : Hid (LLs (w1.alloc (.cells #[.slice Br now.length dr] 36)) w.heap.size w.heap.size (.slice (some ⟨w1.heap.size, 0, none⟩) 1 1) [(.slice Br now.length dr, now)]) := by
    refine ⟨⟨rfl, .inr ⟨w1.heap.size, 1, #[.slice Br now.length dr], rfl, HB.out.size, heap_alloc_new w1 _, Nat.le_refl _, by unfold maxLen; omega, rfl, rfl⟩⟩, fun p hp => ?_⟩
    simp only [List.mem_singleton] at hp
    rw [hp]
    exact Ro.below HR.out (below_alloc _ _)
  go_wp2
  go_ret
  exact CLP.mk HL.out rfl HBA.out

/-- what is known of the blocks that go on -/
def clsP (xs : List Blk) (all m : Nat) (i : Nat) : Bool := hasB (nth xs i) (lowP all m 15 0 : Nat) && (maskB (nth xs i) &&& m == 0) && inA all (nth xs i)
theorem clsStep_any (n : Nat) (A : Option Addr) (c : Nat) (xs : List Blk) (hs : isSys n xs) (all m : Nat) (now : List Int) (F : Nat → List (List Int)) (un : Value) (base : Nat) (w : World) (hL : Lead xs all now m) (hne : m ≠ all) (hA : Bl w A xs) (hN : Ro w base un now) (hb0 : base ≤ w.heap.size) (hn : now.length ≤ 10)
    (hF : ∀ i, i < xs.length → clsP xs all m i = true → ∀ (b2 : Nat) (un2 : Value) (w2 : World), b2 ≤ w2.heap.size → Bl w2 A xs → Ro w2 b2 un2 (now ++ [(i : Int)]) → Calls Try.prog 31 #[.agg #[.int .i64 n, .slice A xs.length c], un2, .int .i64 (m ||| maskB (nth xs i) : Nat), .int .i64 (all : Int)] w2 (CLP w2 (F i)))
    (hbd : ∀ i, (F i).length ≤ 60000000) :
    Calls Try.prog 31 #[.agg #[.int .i64 n, .slice A xs.length c], un, .int .i64 (m : Int), .int .i64 (all : Int)] w (CLP w (loopL F (clsP xs all m) 0 xs.length)) := by
  obtain ⟨ni0, hni, hni0, hni1, hni2⟩ := info_parts infoInt'
  have hx35 := hs.2.1
  have hv15 := hs.1.2
  have HAR : Hid (areB n xs) := hs.2.2.1
  obtain ⟨An, cn, rfl⟩ := own_slice hN
  have HX := Lib.hid (below_alloc w (.cells #[.int .i64 n, .slice A xs.length c] 30))
  have HA := Lib.hid (hA.below HX.out)
  have HR := Lib.hid (Row.box w 30 (.int .i64 n) (.slice A xs.length c))
  have HN := Lib.hid (hN.below HX.out)
  have HSZ : Hid ((w.alloc (.cells #[.int .i64 n, .slice A xs.length c] 30)).heap.size = w.heap.size + 1) := World.size_alloc _ _
  have HF := Lib.hid hF
  have HBD := Lib.hid (fun k => loopL_bd (f := F) (p := clsP xs all m) (a := 0) (B := 60000000) hbd k)
  have HST : Hid (∀ i, loopL F (clsP xs all m) 0 (i + 1) = loopL F (clsP xs all m) 0 i ++ (if clsP xs all m i = true then F i else [])) := fun i => by rw [loopL]; simp
  have HS0 : Hid (loopL F (clsP xs all m) 0 0 = []) := rfl
  have hal := hL.alt
  have hml := hL.mlt
  obtain ⟨p, hpe, hp15, hpa, hpm, hpq⟩ := low_is hL.alt hL.mlt hL.sub hne
  have HCP : Hid (∀ i, clsP xs all m i = (hasB (nth xs i) (p : Nat) && (maskB (nth xs i) &&& m == 0) && inA all (nth xs i))) := fun i => by unfold clsP; rw [hpe]
  have HPQ := Lib.hid hpq
  have HIN : Hid (∀ i, inA all (nth xs i) = (maskB (nth xs i) &&& all == maskB (nth xs i))) := fun i => rfl
  have hnei : ((m : Int) == (all : Int)) = false := by rw [beq_eq_false_iff_ne]; omega
  have HBS : Hid (∀ s q : Nat, s < 32768 → bits .and .i64 ((s : Int) / 2 ^ q) 1 = ((if s.testBit q = true then 1 else 0 : Nat) : Int)) := fun s q h => bit_shr s q h
  generalize loopL F (clsP xs all m) 0 = S at *
  clear hA hN hs hL hF hpe hpq
  go_enter Try.func31, Try.ntmps31
  have HO0 := Lib.hid (Row.new (w.alloc (.cells #[.int .i64 n, .slice A xs.length c] 30)) 36 #[])
  have HBX := Lib.hid (below_alloc (w.alloc (.cells #[.int .i64 n, .slice A xs.length c] 30)) (.cells #[] 36))
  go_wp2
  -- THE WALK
  generalize hW5 : w.alloc (.cells #[.int .i64 n, .slice A xs.length c] 30) = W5 at *
  rw [HSZ.out] at HO0
  obtain ⟨z, hz⟩ : ∃ z, z = w.heap.size + 1 := ⟨_, rfl⟩
  rw [← hz] at HO0
  rw [← hz]
  have HZ : Hid (z = W5.heap.size) := by unfold Hid; rw [hz, HSZ.out]
  clear hz hW5
  have HBF := Lib.hid hbd
  clear hbd
  generalize W5.alloc _ = W at *
  go_loopw [10] (fun i wr => ∃ q : Nat, q ≤ p ∧ i = .int .i64 q ∧ Hid (Below W.heap.size W wr)) (fun i _ => p - (intOf i).toNat)
  case atStart => exact ⟨0, by omega, rfl, Below.refl _ _⟩
  case round =>
    obtain ⟨q, hq, rfl, HD⟩ := hrel
    have e1 := HBS.out m q hml
    have e2 := HBS.out all q hal
    by_cases hlq : q < p
    · cases hm : m.testBit q
      · have hall : all.testBit q = false := by
          cases h : all.testBit q
          · rfl
          · have := HPQ.out q hlq h; rw [hm] at this; cases this
        rw [hm, if_neg (by simp)] at e1
        rw [hall, if_neg (by simp)] at e2
        go_wp2
        go_roundw
        case rel => exact ⟨q + 1, by omega, by go_num, HD.out⟩
        case measure => simp [intOf]; omega
      · rw [hm, if_pos rfl] at e1
        clear e2
        go_wp2
        go_roundw
        case rel => exact ⟨q + 1, by omega, by go_num, HD.out⟩
        case measure => simp [intOf]; omega
    · obtain rfl : q = p := by omega
      rw [hpm, if_neg (by simp)] at e1
      rw [hpa, if_pos rfl] at e2
      go_wp2
      clear e1 e2
      have HB0 := Lib.hid HD.out
      clear HD
      obtain ⟨wo, rfl⟩ : ∃ wo : World, wo = wr := ⟨_, rfl⟩
      go_loopw [9, 11] (fun u i wr => ∃ k : Nat, k ≤ xs.length ∧ i = .int .i64 k ∧ Hid (Below W5.heap.size W5 wr ∧ ∃ ps, LLs wr W5.heap.size w.heap.size u ps ∧ ps.map (·.2) = S k)) (fun _ i _ => xs.length - (intOf i).toNat)
      case atStart =>
        have hrow := HO0.out.below HB0.out
        exact ⟨0, by omega, rfl, below_up HBX.out HB0.out, [], ⟨⟨rfl, .inr ⟨z, 0, #[], rfl, Nat.le_of_eq HZ.out.symm, hrow, Nat.le_refl _, by unfold maxLen; omega, rfl, rfl⟩⟩, fun p hp => by simp at hp⟩, by rw [HS0.out]; rfl⟩
      case round =>
        obtain ⟨k, hk, rfl, HC⟩ := hrel
        have HRw := Lib.hid (HR.out.below HC.out.1)
        have HAw := Lib.hid (HA.out.below HC.out.1)
        have HNw := Lib.hid (HN.out.below HC.out.1)
        obtain ⟨c0, c1⟩ := HRw.out.c2
        have hsz := HRw.out.lt
        by_cases hlt : k < xs.length
        · obtain ⟨b1, o1, hA1, hb1, p0, p1, p2⟩ := HAw.out.at_ hlt
          subst hA1
          have hg := (HAR.out k hlt).1
          have HG : Hid (goodB 15 (nth xs k) = true) := good_mono hg hv15
          have hmk := maskB_lt hg
          have hp15' := pow15 hv15
          have hand := bits_and_nat (maskB (nth xs k)) m (by omega) (by omega)
          have hana := bits_and_nat (maskB (nth xs k)) all (by omega) (by omega)
          have hor := bits_or_nat m (maskB (nth xs k)) (by omega) (by omega)
          have hcp := HCP.out k
          rw [HIN.out k] at hcp
          clear hmk hp15' hg
          go_wp2_with fail
          refine (l05Bits_any _ _ HG.out).mono ?_
          rintro e w6 ⟨rfl, hb⟩
          have HB7 := Lib.hid hb; clear hb c0 c1 p0 p1 p2
          obtain ⟨b2, o2, hA2, hb2, p0, p1, p2⟩ := (HAw.out.below HB7.out).at_ hlt
          simp only [Option.some.injEq, Addr.mk.injEq] at hA2
          obtain ⟨rfl, rfl, -⟩ := hA2
          obtain ⟨c0, c1⟩ := (HRw.out.below HB7.out).c2
          have hs7 := (HRw.out.below HB7.out).lt
          cases hwi : hasB (nth xs k) (q : Nat)
          · rw [hwi] at hcp
            have HCF : Hid (clsP xs all m k = false) := by rw [hcp]; rfl
            clear hand hana hor
            go_wp2_with fail
            refine (l01With_any _ _ _).mono ?_
            rw [hwi]
            rintro e w7 ⟨rfl, hb⟩
            replace HB7 := Lib.hid (below_up HB7.out hb); clear hb c0 c1 p0 p1 p2
            go_wp2
            go_roundw
            case rel => exact ⟨k + 1, by omega, by go_num, below_up HC.out.1 HB7.out, _, HC.out.2.choose_spec.1.below HB7.out, by rw [HST.out, if_neg (by rw [HCF.out]; simp), List.append_nil]; exact HC.out.2.choose_spec.2⟩
            case measure => simp [intOf]; omega
          · rw [hwi] at hcp
            by_cases hz1 : maskB (nth xs k) &&& m = 0
            · rw [hz1] at hand hcp
              by_cases hz2 : maskB (nth xs k) &&& all = maskB (nth xs k)
              · rw [hz2] at hana hcp
                have HCT : Hid (clsP xs all m k = true) := by unfold Hid; rw [hcp]; simp
                clear hcp
                go_wp2_with fail
                refine (l01With_any _ _ _).mono ?_
                rw [hwi]
                rintro e w7 ⟨rfl, hb⟩
                replace HB7 := Lib.hid (below_up HB7.out hb); clear hb c0 c1 p0 p1 p2
                go_wp2
                have HKEEP := Lib.hid (HRw.out.below HB7.out).c2
                have HR7 := Lib.hid (HRw.out.below HB7.out)
                have HN7 := Lib.hid (HNw.out.below HB7.out)
                have HA7 := Lib.hid (HAw.out.below HB7.out)
                obtain ⟨ps, hps, hpm2⟩ := HC.out.2
                have HP7 := Lib.hid (hps.below HB7.out)
                have HPM := Lib.hid hpm2
                have hbw7 : w.heap.size ≤ w7.heap.size := by have h1 := HX.out.size; have h2 := HC.out.1.size; have h3 := HB7.out.size; omega
                have HPL : Hid (ps.length ≤ 35 * 60000000) := by
                  have h1 := HBD.out k
                  rw [← hpm2, List.length_map] at h1
                  exact Nat.le_trans h1 (Nat.mul_le_mul_right _ (by omega))
                have HFK := Lib.hid (HF.out k hlt HCT.out)
                clear hps hpm2
                have hbw5 : W5.heap.size ≤ w7.heap.size := by have h2 := HC.out.1.size; have h3 := HB7.out.size; omega
                have HB57 := Lib.hid (below_up HC.out.1 HB7.out)
                go_region_held3 (fun w' => w'.cell? ⟨w.heap.size, 0, none⟩ = some (.int .i64 n) ∧ w'.cell? ⟨w.heap.size, 1, none⟩ = some (.slice (some ⟨b1, o1, none⟩) xs.length c)) (first | exact HKEEP.out | exact (HR7.out.below (HB8.out.alloc HB8.out.size _)).c2 | exact (HR7.out.below (below_alloc _ _)).c2 | exact (HR7.out.below (below_up (below_drew _) (below_alloc _ _))).c2 | exact (HR7.out.below (below_up (below_alloc _ _) (below_drew _))).c2) (first
                  | (go_at_call 59
                     refine (l01Own_any _ base now _ (HN7.out.below (by (repeat' (first | (with_reducible exact Below.refl _ _) | (with_reducible assumption) | (with_reducible refine below_drewN ?_ _) | (with_reducible refine Below.drew ?_) | (with_reducible refine Below.alloc ?_ ?_ _) | (with_reducible refine Below.setCell ?_ ?_ _) | go_size)))) (by omega)).mono ?_
                     rintro e w8 ⟨r, rfl, hr, hb⟩
                     have HB8 : Hid (Below w7.heap.size w7 w8) := below_up (by (repeat' (first | (with_reducible exact Below.refl _ _) | (with_reducible assumption) | (with_reducible refine below_drewN ?_ _) | (with_reducible refine Below.drew ?_) | (with_reducible refine Below.alloc ?_ ?_ _) | (with_reducible refine Below.setCell ?_ ?_ _) | go_size))) hb
                     have HO8 : Hid (w8.ownsRow w7.heap.size 2 1 r now.length (now.map (Value.int .i64))) := own_base hr (by simp)
                     replace HKEEP := Lib.hid (HR7.out.below HB8.out).c2
                     have hs8 := HB8.out.size
                     have HBP := Lib.hid hb
                     clear hb hr)
                  | (refine step_append_lies _ (by rfl) _ _ 36 (by rfl) w7.heap.size 2 ni0 (.int .i64 0) 1 8 Try.underlying36 hni hni0 hni1 hni2 rfl (by decide) _ _ _ (by rfl) (HO8.out.alloc _) ⟨w8.heap.size, 0, none⟩ 1 1 [.int .i64 k] (by rfl) rfl (cells_new _ _ _) (by simp [Value.oneCell']) (by omega) (by unfold maxLen; omega) (by omega) (by simp; omega) (w8.heap.size + 1) (by simp) ?_
                     intro g cap w9 hown9 hg9 hat9 hlt9
                     have HO9 : Hid (Ro w9 w7.heap.size (.slice (some ⟨g, 0, none⟩) (now.length + 1) cap) (now ++ [(k : Int)])) := by { unfold Hid Ro; rw [List.length_append, List.map_append]; exact hown9 }
                     have HB9 : Hid (Below w7.heap.size w7 w9) := (HB8.out.alloc HB8.out.size _).grown hg9 (by simp; omega) (own_block HO8.out)
                     replace HKEEP := Lib.hid (HR7.out.below HB9.out).c2
                     clear hown9 hg9 hat9)
                  | (refine step_append_lies _ (by rfl) _ _ 36 (by rfl) w7.heap.size 2 ni0 (.int .i64 0) 1 8 Try.underlying36 hni hni0 hni1 hni2 rfl (by decide) _ _ _ (by rfl) HO8.out ⟨w7.heap.size, 0, none⟩ 1 1 [.int .i64 k] (by rfl) rfl (cells_old HBP.out (by first | (simp; done) | omega) (cells_new w7 _ _)) (by simp [Value.oneCell']) (by omega) (by unfold maxLen; omega) (by omega) (by omega) w8.heap.size rfl ?_
                     intro g cap w9 hown9 hg9 hat9 hlt9
                     have HO9 : Hid (Ro w9 w7.heap.size (.slice (some ⟨g, 0, none⟩) (now.length + 1) cap) (now ++ [(k : Int)])) := by { unfold Hid Ro; rw [List.length_append, List.map_append]; exact hown9 }
                     have HB9 : Hid (Below w7.heap.size w7 w9) := HB8.out.grown hg9 (by omega) (own_block HO8.out)
                     replace HKEEP := Lib.hid (HR7.out.below HB9.out).c2
                     clear hown9 hg9 hat9)
                  | (go_at_call 31
                     (try rw [hor])
                     refine (HFK.out w7.heap.size (.slice (some ⟨g, 0, none⟩) (now.length + 1) cap) _ HB9.out.size (HA7.out.below HB9.out) HO9.out).mono ?_
                     rintro e w10 ⟨r2, qs, rfl, hR2, hqs, hb⟩
                     have HR2 := Lib.hid hR2
                     have HQS := Lib.hid hqs
                     have HB10 := Lib.hid (below_up HB9.out hb)
                     replace HKEEP := Lib.hid (HR7.out.below HB10.out).c2
                     have HP10 := Lib.hid (HP7.out.below HB10.out)
                     have hs10 := HB10.out.size
                     have hz9 : w.heap.size ≤ w9.heap.size := Nat.le_trans hbw7 HB9.out.size
                     clear hR2 hb hqs)
                  | (refine step_append_hd _ (by rfl) _ _ (by rfl) W5.heap.size w.heap.size _ _ _ ps qs (by rfl) (by rfl) HP10.out (HR2.out.base hz9 hz9) (by have h1 := HPL.out; have h2 := HBF.out k; rw [← HQS.out, List.length_map] at h2; omega) (by omega) ?_
                     intro v11 w11 hl11 hg11 hat11
                     have HL11 := Lib.hid hl11
                     have HB11 : Hid (Below W5.heap.size W5 w11) := (below_up HB57.out HB10.out).grown hg11 (by omega) (own_block HP10.out.1)
                     replace HKEEP := Lib.hid (HR.out.below HB11.out).c2
                     clear hl11 hg11 hat11))
                all_goals
                  go_wp2
                  go_roundw
                  case rel => exact ⟨k + 1, by omega, by go_num, HB11.out, ps ++ qs, HL11.out, by rw [List.map_append, HPM.out, HQS.out, HST.out, if_pos HCT.out]⟩
                  case measure => simp [intOf]; omega
              · have HCF : Hid (clsP xs all m k = false) := by unfold Hid; rw [hcp]; simp [hz2]
                have hne2 : (((maskB (nth xs k) &&& all : Nat) : Int) == (maskB (nth xs k) : Nat)) = false := by rw [beq_eq_false_iff_ne]; exact_mod_cast hz2
                clear hor hcp
                go_wp2_with fail
                refine (l01With_any _ _ _).mono ?_
                rw [hwi]
                rintro e w7 ⟨rfl, hb⟩
                replace HB7 := Lib.hid (below_up HB7.out hb); clear hb c0 c1 p0 p1 p2
                go_wp2
                go_roundw
                case rel => exact ⟨k + 1, by omega, by go_num, below_up HC.out.1 HB7.out, _, HC.out.2.choose_spec.1.below HB7.out, by rw [HST.out, if_neg (by rw [HCF.out]; simp), List.append_nil]; exact HC.out.2.choose_spec.2⟩
                case measure => simp [intOf]; omega
            · have HCF : Hid (clsP xs all m k = false) := by unfold Hid; rw [hcp]; simp [hz1]
              have hne2 : (((maskB (nth xs k) &&& m : Nat) : Int) == 0) = false := by rw [beq_eq_false_iff_ne]; exact_mod_cast hz1
              clear hor hana hcp
              go_wp2_with fail
              refine (l01With_any _ _ _).mono ?_
              rw [hwi]
              rintro e w7 ⟨rfl, hb⟩
              replace HB7 := Lib.hid (below_up HB7.out hb); clear hb c0 c1 p0 p1 p2
              go_wp2
              go_roundw
              case rel => exact ⟨k + 1, by omega, by go_num, below_up HC.out.1 HB7.out, _, HC.out.2.choose_spec.1.below HB7.out, by rw [HST.out, if_neg (by rw [HCF.out]; simp), List.append_nil]; exact HC.out.2.choose_spec.2⟩
              case measure => simp [intOf]; omega
        · obtain rfl : k = xs.length := by omega
          obtain ⟨ps, h1, h2⟩ := HC.out.2
          have H1 := Lib.hid h1; have H2 := Lib.hid h2
          clear h1 h2
          go_wp2
          go_ret
          exact CLP.mk (H1.out.base HX.out.size (Nat.le_refl _)) H2.out (below_up HX.out HC.out.1)

end Go.Proofs.Ytabgmjakkgalgaa

/- Contracts of the reference's lists in order; conditions: stated in each. -/
namespace Go.Proofs.Ytabgmjakkgalgaa
open Go.RowKit
set_option maxHeartbeats 2000000
set_option maxRecDepth 100000
set_option linter.unusedSimpArgs false
set_option linter.unusedVariables false

theorem l03Less_any (A : Option Addr) (c : Nat) (a : List Int) (B : Option Addr) (d : Nat) (b : List Int) (w : World) (hA : Il w A a) (hB : Il w B b) (hl : a.length ≤ 1048576) (hlb : b.length ≤ 1048576) :
    Calls Try.prog 88 #[.slice A a.length c, .slice B b.length d] w fun e w' => e = .returned (.bool (lessL a b)) ∧ Below w.heap.size w w' := by
  have HA := Lib.hid hA; have HB := Lib.hid hB
  clear hA hB
  have HL0 : Hid (lessF a b (a.length - 0) 0 = lessL a b) := rfl
  generalize lessL a b = R at *
  go_enter Try.func88, Try.ntmps88
  go_wp2
  go_loopw [5] (fun i wr => ∃ k : Nat, k ≤ a.length ∧ i = .int .i64 k ∧ Hid (Below w.heap.size w wr ∧ lessF a b (a.length - k) k = R)) (fun i _ => a.length - (intOf i).toNat)
  case atStart => exact ⟨0, by omega, rfl, Below.refl _ _, HL0.out⟩
  case round =>
    obtain ⟨k, hk, rfl, HC⟩ := hrel
    by_cases hlt : k < a.length
    · by_cases hlt2 : k < b.length
      · obtain ⟨b1, o1, hA1, hb1, p0⟩ := (HA.out.below HC.out.1).at_ hlt
        obtain ⟨b2, o2, hA2, hb2, q0⟩ := (HB.out.below HC.out.1).at_ hlt2
        subst hA1 hA2
        by_cases he : nthI a k = nthI b k
        · have HNX : Hid (lessF a b (a.length - (k + 1)) (k + 1) = R) := by
            have h := HC.out.2
            rw [(by omega : a.length - k = a.length - (k + 1) + 1), lessF, if_pos ⟨hlt, hlt2⟩, if_neg (by simpa using he)] at h
            exact h
          have HBW := Lib.hid HC.out.1
          rw [← he] at q0
          clear HC
          go_wp2
          go_quiet (fail)
          go_wp2
          go_roundw
          case rel => exact ⟨k + 1, by omega, by go_num, below_drewN HBW.out _, HNX.out⟩
          case measure => simp [intOf]; omega
        · have HNX : Hid (R = decide (nthI a k < nthI b k)) := by
            have h := HC.out.2
            rw [(by omega : a.length - k = a.length - (k + 1) + 1), lessF, if_pos ⟨hlt, hlt2⟩, if_pos he] at h
            exact h.symm
          have HBW := Lib.hid HC.out.1
          clear HC
          go_wp2
          go_quiet (fail)
          go_wp2
          go_quiet (fail)
          go_wp2
          go_ret
          exact ⟨ret_bool (by rw [HNX.out]), below_drewN (below_drewN HBW.out _) _⟩
      · have HNX : Hid (R = decide (a.length < b.length)) := by
          have h := HC.out.2
          rw [(by omega : a.length - k = a.length - (k + 1) + 1), lessF, if_neg (by omega)] at h
          exact h.symm
        have HBW := Lib.hid HC.out.1
        clear HC
        go_wp2
        go_ret
        exact ⟨ret_bool (by rw [HNX.out]), HBW.out⟩
    · have HNX : Hid (R = decide (a.length < b.length)) := by
        have h := HC.out.2
        rw [(by omega : a.length - k = 0), lessF] at h
        exact h.symm
      have HBW := Lib.hid HC.out.1
      clear HC
      go_wp2
      go_ret
      exact ⟨ret_bool (by rw [HNX.out]), HBW.out⟩
theorem l03Same_any (A : Option Addr) (c : Nat) (a : List Int) (B : Option Addr) (d : Nat) (b : List Int) (w : World) (hA : Il w A a) (hB : Il w B b) (hl : a.length ≤ 1048576) (hlb : b.length ≤ 1048576) :
    Calls Try.prog 89 #[.slice A a.length c, .slice B b.length d] w fun e w' => e = .returned (.bool (sameL a b)) ∧ Below w.heap.size w w' := by
  have HA := Lib.hid hA; have HB := Lib.hid hB
  have HAB := Lib.hid (fun W (hb : Below w.heap.size w W) => l03Less_any A c a B d b W (HA.out.below hb) (HB.out.below hb) hl hlb)
  have HBA := Lib.hid (fun W (hb : Below w.heap.size w W) => l03Less_any B d b A c a W (HB.out.below hb) (HA.out.below hb) hlb hl)
  have HR : Hid (sameL a b = (!lessL a b && !lessL b a)) := rfl
  generalize sameL a b = R at *
  have HW := Lib.hid (Since.refl w)
  generalize h1 : lessL a b = r1 at *
  generalize h2 : lessL b a = r2 at *
  clear hA hB h1 h2
  cases r1
  · go_enter Try.func89, Try.ntmps89
    go_wp2_with fail
    refine (HAB.out _ (Below.refl _ _)).mono ?_
    rintro e w1 ⟨rfl, hb⟩
    have HB1 := Lib.hid hb; clear hb
    go_wp2_with fail
    refine (HBA.out _ HB1.out).mono ?_
    rintro e w2 ⟨rfl, hb⟩
    have HB2 := Lib.hid (below_up HB1.out hb); clear hb
    go_wp2
    go_ret
    exact ⟨ret_bool (by rw [HR.out]; rfl), HB2.out⟩
  · go_enter Try.func89, Try.ntmps89
    go_wp2_with fail
    refine (HAB.out _ (Below.refl _ _)).mono ?_
    rintro e w1 ⟨rfl, hb⟩
    have HB1 := Lib.hid hb; clear hb
    go_wp2
    go_ret
    exact ⟨ret_bool (by rw [HR.out]; rfl), HB1.out⟩

/-- a list is put in -/
theorem l03Put_any (u : Value) (b1 b2 : Nat) (ps : List (Value × List Int)) (h9 : Value) (y : List Int) (w : World) (hL : LLs w b1 b2 u ps) (hy : Ro w b2 h9 y) (hl : ps.length ≤ 100000000) (hx : ∀ p ∈ ps, p.2.length ≤ 1048576) (hyl : y.length ≤ 1048576) (hb1 : b1 ≤ w.heap.size) :
    Calls Try.prog 60 #[u, h9] w fun e w' => ∃ u' ps', e = .returned u' ∧ LLs w' b1 b2 u' ps' ∧ ps'.map (·.2) = putL (ps.map (·.2)) y ∧ w.grownBy w' u.ownBlock ∧ (u'.ownBlock = u.ownBlock ∨ ∃ q, u'.ownBlock = some q ∧ w.heap.size ≤ q) := by
  obtain ⟨li0, hli, hli0, hli1, hli2⟩ := info_parts infoList'
  obtain ⟨A, c, rfl⟩ := hL.slice
  obtain ⟨B, d, rfl, hI, -⟩ := hy.il
  have HL := Lib.hid hL
  have HI := Lib.hid hI
  have HYR : Hid (∀ W, w.grownBy W (Value.slice A ps.length c).ownBlock → Ro W b2 (.slice B y.length d) y) := fun W hg => hy.grown hg fun b e e2 => own_two hL.1 hy (by decide) b e e2
  have HPD : Hid (putL (ps.map (·.2)) y = if 0 < putAt (ps.map (·.2)) y ps.length ∧ sameL (nthLL (ps.map (·.2)) (putAt (ps.map (·.2)) y ps.length - 1)) y = true then ps.map (·.2) else (ps.map (·.2)).take (putAt (ps.map (·.2)) y ps.length) ++ [y] ++ (ps.map (·.2)).drop (putAt (ps.map (·.2)) y ps.length)) := by unfold Hid putL; rw [List.length_map]
  have HHD : Hid (∀ k, k < ps.length → (nthLL (ps.map (·.2)) k).length ≤ 1048576) := fun k hk => by
    have : nthLL (ps.map (·.2)) k = ps[k].2 := by simp [nthLL, hk]
    rw [this]; exact hx _ (List.getElem_mem hk)
  have HPA : Hid (∀ a, putAt (ps.map (·.2)) y (a + 1) = if lessL y (nthLL (ps.map (·.2)) a) = true then putAt (ps.map (·.2)) y a else a + 1) := fun a => rfl
  have HP0 : Hid (putAt (ps.map (·.2)) y 0 = 0) := rfl
  generalize putL (ps.map (·.2)) y = R at *
  clear hL hy hI hx
  go_enter Try.func60, Try.ntmps60
  go_wp2
  go_loopw [5] (fun i wr => ∃ t : Nat, t ≤ ps.length ∧ i = .int .i64 t ∧ Hid (Below w.heap.size w wr ∧ putAt (ps.map (·.2)) y t = putAt (ps.map (·.2)) y ps.length)) (fun i _ => (intOf i).toNat)
  case atStart => exact ⟨ps.length, by omega, rfl, Below.refl _ _, rfl⟩
  case round =>
    obtain ⟨t, ht, rfl, HC⟩ := hrel
    by_cases ht0 : 0 < t
    · obtain ⟨g0, B0, d0, rfl, hg0, -, p0, hI0, -⟩ := (HL.out.below HC.out.1).rd (k := t - 1) (by omega)
      have hl0 := HHD.out (t - 1) (by omega)
      have HI0 := Lib.hid hI0
      have HPT := Lib.hid (HPA.out (t - 1))
      rw [(by omega : t - 1 + 1 = t)] at HPT
      clear hI0
      go_wp2_with fail
      refine (l03Less_any B d y B0 d0 _ _ (HI.out.below HC.out.1) HI0.out hyl hl0).mono ?_
      rintro e wl ⟨rfl, hb⟩
      have HBW : Hid (Below w.heap.size w wl) := below_up HC.out.1 hb
      have HI1 := Lib.hid (HI0.out.below hb)
      have p1 := (hb.cell (p := ⟨g0, t - 1, none⟩) hg0).trans p0
      have hg1 : g0 < wl.heap.size := Nat.lt_of_lt_of_le hg0 hb.size
      clear hb p0 HI0
      cases hle : lessL y (nthLL (ps.map (·.2)) (t - 1))
      · have HTT : Hid (putAt (ps.map (·.2)) y ps.length = t) := by unfold Hid; rw [← HC.out.2, HPT.out, if_neg (by simp [hle])]
        rw [HTT.out] at HPD
        cases hsm : sameL (nthLL (ps.map (·.2)) (t - 1)) y
        · have HPL : Hid (R = (ps.map (·.2)).take t ++ [y] ++ (ps.map (·.2)).drop t) := by unfold Hid; rw [HPD.out, if_neg (by rintro ⟨_, h⟩; rw [hsm] at h; cases h)]
          go_wp2_with fail
          refine (l03Same_any B0 d0 _ B d y _ HI1.out (HI.out.below HBW.out) hl0 hyl).mono ?_
          rw [hsm]
          rintro e ws ⟨rfl, hb⟩
          replace HBW := Lib.hid (below_up HBW.out hb)
          clear hb p1 hg1 hg0 HI1 HC HTT HPT HPD HPA HP0 hle hsm
          obtain ⟨wr, rfl⟩ : ∃ wx : World, wx = ws := ⟨_, rfl⟩
          have HLw := Lib.hid (HL.out.below HBW.out)
          have HO : Hid (wr.ownsRow b1 36 1 (.slice (some ⟨g0, 0, none⟩) ps.length c) ps.length (ps.map (·.1))) := HLw.out.1
          have hwz : w.heap.size ≤ wr.heap.size := HBW.out.size
          go_wp2_with (at_builtin; refine wpList_append_own_at _ rfl _ _ 53 rfl b1 36 li0 (.slice none 0 0) 1 24 Try.underlying53 hli hli0 hli1 hli2 rfl (by decide) _ _ _ rfl (HO.out.alloc _) ⟨wr.heap.size, 0, none⟩ 1 1 [.slice none 0 0] rfl rfl (cells_new _ _ _) (by simp [Value.oneCell']) (by unfold maxLen; omega) (by omega) (by simp; omega) ?_; intro v2 w2 hown2 hg2 _ hat2)
          have HL2 : Hid (LLs w2 b1 b2 v2 (ps ++ [(.slice none 0 0, [])])) := (HLw.out.below (below_alloc _ _)).grown hg2 (by rw [List.length_append, List.map_append]; exact hown2) fun q hq => by
            rcases List.mem_append.1 hq with h | h
            · exact .inl h
            · simp only [List.mem_singleton] at h; right; rw [h]; exact World.ownsRow_nil _ _ _ _
          have HAT : Hid (v2.ownBlock = (Value.slice (some ⟨g0, 0, none⟩) ps.length c).ownBlock ∨ ∃ q, v2.ownBlock = some q ∧ w.heap.size ≤ q) := hat2.imp id fun e => ⟨_, e, by rw [World.size_alloc]; omega⟩
          have HG2 : Hid (w.grownBy w2 (Value.slice (some ⟨g0, 0, none⟩) ps.length c).ownBlock) := World.grownBy.trans (grown_below (below_up HBW.out (below_alloc _ _)) _) hg2
          clear hown2 hg2 hat2
          obtain ⟨g, c2, hv2, hge2, hgl2⟩ := HL2.out.form (by simp)
          rw [List.length_append, List.length_singleton] at hv2
          subst hv2
          have HLN : ∀ W : World, (Builtin.len_ #[53] 3 #[Value.slice (some ⟨g, 0, none⟩) (ps.length + 1) c2]).run Try.prog W = .ok (.int .i64 ((ps.length + 1 : Nat) : Int)) W := fun W => by go_simp
          have HST0 : Hid (LLs w2 b1 b2 (.slice (some ⟨g, 0, none⟩) (ps.length + 1) c2) (ps.take ps.length ++ [(.slice none 0 0, [])] ++ ps.drop ps.length)) := by
            unfold Hid; rw [List.take_length, List.drop_length, List.append_nil]; exact HL2.out
          clear HL2 HO HLw hge2 hgl2 HHD
          rw [HLN w2]
          go_wp2
          go_loopw [6] (fun i wq => ∃ (s : Nat) (j : Value × List Int), t ≤ s ∧ s ≤ ps.length ∧ i = .int .i64 s ∧ Hid (w2.grownBy wq (some g) ∧ LLs wq b1 b2 (.slice (some ⟨g, 0, none⟩) (ps.length + 1) c2) (ps.take s ++ [j] ++ ps.drop s))) (fun i _ => (intOf i).toNat)
          case atStart => exact ⟨ps.length, _, by omega, by omega, by go_num, grown_refl _ _, HST0.out⟩
          case round =>
            obtain ⟨s, j, hs1, hs2, rfl, HD⟩ := hrel
            have hml : (ps.take s ++ [j] ++ ps.drop s).length = ps.length + 1 := midL_len
            obtain ⟨g1, B1, d1, e1, hgl1, -, q0, -, -⟩ := HD.out.2.rd (k := s) (by omega)
            simp only [Option.some.injEq, Addr.mk.injEq] at e1
            obtain ⟨rfl, -⟩ := e1
            have f0 := HD.out.2.frozen s
            by_cases hlt : t < s
            · obtain ⟨g3, B3, d3, e3, -, -, r0, hI3, e4⟩ := HD.out.2.rd (k := s - 1) (by omega)
              simp only [Option.some.injEq, Addr.mk.injEq] at e3
              obtain ⟨rfl, -⟩ := e3
              obtain ⟨m, rfl⟩ : ∃ m, s = m + 1 := ⟨s - 1, by omega⟩
              obtain ⟨zl, hzl⟩ : ∃ zl, zl = (nthLL ((ps.take (m + 1) ++ [j] ++ ps.drop (m + 1)).map (·.2)) (m + 1 - 1)).length := ⟨_, rfl⟩
              rw [← hzl] at r0 e4
              rw [Nat.add_sub_cancel] at r0
              have hm : m < ps.length := by omega
              have hpm : (ps.take (m + 1) ++ [j] ++ ps.drop (m + 1))[m + 1 - 1]'(by omega) = ps[m] := by
                have h1 := midL_nth (S := ps) (j := j) (t := m + 1) (i := m) (by omega) (by omega)
                rw [List.getElem?_eq_getElem (by rw [midL_len]; omega), List.getElem?_eq_getElem hm] at h1
                simpa using h1
              rw [hpm] at e4
              have hRm : Ro wr b2 ps[m].1 ps[m].2 := HD.out.2.2 _ (by rw [← hpm]; exact List.getElem_mem _)
              have HSS : Hid (LLs (wr.setCell ⟨g, m + 1, none⟩ ps[m].1) b1 b2 (.slice (some ⟨g, 0, none⟩) (ps.length + 1) c2) (ps.take m ++ [ps[m]] ++ ps.drop m)) := by
                have h := HD.out.2.set (k := m + 1) ps[m] hRm
                rw [midL_back hm] at h
                exact h
              have HGS : Hid (w2.grownBy (wr.setCell ⟨g, m + 1, none⟩ ps[m].1) (some g)) := grown_set HD.out.1 _ _
              rw [e4] at HSS HGS
              generalize ps[m] = pm at *
              clear e4 hpm hI3 hml hRm hzl
              go_wp2
              go_roundw
              case rel => exact ⟨m, pm, by omega, by omega, by go_num, HGS.out, by have := HSS.out; exact this⟩
              case measure => first | (simp [intOf]; done) | (simp [intOf]; omega)
            · obtain rfl : s = t := by omega
              have HSS : Hid (LLs (wr.setCell ⟨g, s, none⟩ (.slice B y.length d)) b1 b2 (.slice (some ⟨g, 0, none⟩) (ps.length + 1) c2) (ps.take s ++ [(.slice B y.length d, y)] ++ ps.drop s)) := by
                have h := HD.out.2.set (k := s) (.slice B y.length d, y) (HYR.out _ (grown_then (v := .slice (some ⟨g, 0, none⟩) (ps.length + 1) c2) HG2.out HD.out.1 HAT.out))
                rw [midL_end hs2] at h
                exact h
              go_wp2
              go_ret
              refine ⟨_, _, rfl, HSS.out, ?_, ?_, HAT.out⟩
              · rw [HPL.out]; simp [List.map_take, List.map_drop]
              · exact grown_then (v := .slice (some ⟨g, 0, none⟩) (ps.length + 1) c2) HG2.out (grown_set HD.out.1 _ _) HAT.out
        · have HPL : Hid (R = ps.map (·.2)) := by unfold Hid; rw [HPD.out, if_pos ⟨ht0, hsm⟩]
          go_wp2_with fail
          refine (l03Same_any B0 d0 _ B d y _ HI1.out (HI.out.below HBW.out) hl0 hyl).mono ?_
          rw [hsm]
          rintro e ws ⟨rfl, hb⟩
          replace HBW := Lib.hid (below_up HBW.out hb)
          clear hb
          go_wp2
          go_ret
          exact ⟨_, ps, rfl, HL.out.below HBW.out, HPL.out.symm, grown_below HBW.out _, .inl rfl⟩
      · have HTT : Hid (putAt (ps.map (·.2)) y (t - 1) = putAt (ps.map (·.2)) y ps.length) := by unfold Hid; rw [← HC.out.2, HPT.out, if_pos hle]
        go_wp2
        go_roundw
        case rel => exact ⟨t - 1, by omega, by go_num, HBW.out, HTT.out⟩
        case measure => simp [intOf]; omega
    · obtain rfl : t = 0 := by omega
      have HBW := Lib.hid HC.out.1
      have HTT : Hid (putAt (ps.map (·.2)) y ps.length = 0) := by unfold Hid; rw [← HC.out.2]; exact HP0.out
      rw [HTT.out] at HPD
      have HPL : Hid (R = (ps.map (·.2)).take 0 ++ [y] ++ (ps.map (·.2)).drop 0) := by unfold Hid; rw [HPD.out, if_neg (by rintro ⟨h, _⟩; omega)]
      obtain ⟨t, ht9⟩ : ∃ t : Nat, t = 0 := ⟨_, rfl⟩
      clear HC HTT HPD HPA HP0
      have HLw := Lib.hid (HL.out.below HBW.out)
      have HO : Hid (wr.ownsRow b1 36 1 (.slice A ps.length c) ps.length (ps.map (·.1))) := HLw.out.1
      have hwz : w.heap.size ≤ wr.heap.size := HBW.out.size
      go_wp2_with (at_builtin; refine wpList_append_own_at _ rfl _ _ 53 rfl b1 36 li0 (.slice none 0 0) 1 24 Try.underlying53 hli hli0 hli1 hli2 rfl (by decide) _ _ _ rfl (HO.out.alloc _) ⟨wr.heap.size, 0, none⟩ 1 1 [.slice none 0 0] rfl rfl (cells_new _ _ _) (by simp [Value.oneCell']) (by unfold maxLen; omega) (by omega) (by simp; omega) ?_; intro v2 w2 hown2 hg2 _ hat2)
      have HL2 : Hid (LLs w2 b1 b2 v2 (ps ++ [(.slice none 0 0, [])])) := (HLw.out.below (below_alloc _ _)).grown hg2 (by rw [List.length_append, List.map_append]; exact hown2) fun q hq => by
        rcases List.mem_append.1 hq with h | h
        · exact .inl h
        · simp only [List.mem_singleton] at h; right; rw [h]; exact World.ownsRow_nil _ _ _ _
      have HAT : Hid (v2.ownBlock = (Value.slice A ps.length c).ownBlock ∨ ∃ q, v2.ownBlock = some q ∧ w.heap.size ≤ q) := hat2.imp id fun e => ⟨_, e, by rw [World.size_alloc]; omega⟩
      have HG2 : Hid (w.grownBy w2 (Value.slice A ps.length c).ownBlock) := World.grownBy.trans (grown_below (below_up HBW.out (below_alloc _ _)) _) hg2
      clear hown2 hg2 hat2
      obtain ⟨g, c2, hv2, hge2, hgl2⟩ := HL2.out.form (by simp)
      rw [List.length_append, List.length_singleton] at hv2
      subst hv2
      have HLN : ∀ W : World, (Builtin.len_ #[53] 3 #[Value.slice (some ⟨g, 0, none⟩) (ps.length + 1) c2]).run Try.prog W = .ok (.int .i64 ((ps.length + 1 : Nat) : Int)) W := fun W => by go_simp
      have HST0 : Hid (LLs w2 b1 b2 (.slice (some ⟨g, 0, none⟩) (ps.length + 1) c2) (ps.take ps.length ++ [(.slice none 0 0, [])] ++ ps.drop ps.length)) := by
        unfold Hid; rw [List.take_length, List.drop_length, List.append_nil]; exact HL2.out
      clear HL2 HO HLw hge2 hgl2 HHD
      rw [HLN w2]
      go_wp2
      go_loopw [6] (fun i wq => ∃ (s : Nat) (j : Value × List Int), 0 ≤ s ∧ s ≤ ps.length ∧ i = .int .i64 s ∧ Hid (w2.grownBy wq (some g) ∧ LLs wq b1 b2 (.slice (some ⟨g, 0, none⟩) (ps.length + 1) c2) (ps.take s ++ [j] ++ ps.drop s))) (fun i _ => (intOf i).toNat)
      case atStart => exact ⟨ps.length, _, by omega, by omega, by go_num, grown_refl _ _, HST0.out⟩
      case round =>
        obtain ⟨s, j, hs1, hs2, rfl, HD⟩ := hrel
        have hml : (ps.take s ++ [j] ++ ps.drop s).length = ps.length + 1 := midL_len
        obtain ⟨g1, B1, d1, e1, hgl1, -, q0, -, -⟩ := HD.out.2.rd (k := s) (by omega)
        simp only [Option.some.injEq, Addr.mk.injEq] at e1
        obtain ⟨rfl, -⟩ := e1
        have f0 := HD.out.2.frozen s
        by_cases hlt : 0 < s
        · obtain ⟨g3, B3, d3, e3, -, -, r0, hI3, e4⟩ := HD.out.2.rd (k := s - 1) (by omega)
          simp only [Option.some.injEq, Addr.mk.injEq] at e3
          obtain ⟨rfl, -⟩ := e3
          obtain ⟨m, rfl⟩ : ∃ m, s = m + 1 := ⟨s - 1, by omega⟩
          obtain ⟨zl, hzl⟩ : ∃ zl, zl = (nthLL ((ps.take (m + 1) ++ [j] ++ ps.drop (m + 1)).map (·.2)) (m + 1 - 1)).length := ⟨_, rfl⟩
          rw [← hzl] at r0 e4
          rw [Nat.add_sub_cancel] at r0
          have hm : m < ps.length := by omega
          have hpm : (ps.take (m + 1) ++ [j] ++ ps.drop (m + 1))[m + 1 - 1]'(by omega) = ps[m] := by
            have h1 := midL_nth (S := ps) (j := j) (t := m + 1) (i := m) (by omega) (by omega)
            rw [List.getElem?_eq_getElem (by rw [midL_len]; omega), List.getElem?_eq_getElem hm] at h1
            simpa using h1
          rw [hpm] at e4
          have hRm : Ro wr b2 ps[m].1 ps[m].2 := HD.out.2.2 _ (by rw [← hpm]; exact List.getElem_mem _)
          have HSS : Hid (LLs (wr.setCell ⟨g, m + 1, none⟩ ps[m].1) b1 b2 (.slice (some ⟨g, 0, none⟩) (ps.length + 1) c2) (ps.take m ++ [ps[m]] ++ ps.drop m)) := by
            have h := HD.out.2.set (k := m + 1) ps[m] hRm
            rw [midL_back hm] at h
            exact h
          have HGS : Hid (w2.grownBy (wr.setCell ⟨g, m + 1, none⟩ ps[m].1) (some g)) := grown_set HD.out.1 _ _
          rw [e4] at HSS HGS
          generalize ps[m] = pm at *
          clear e4 hpm hI3 hml hRm hzl
          go_wp2
          go_roundw
          case rel => exact ⟨m, pm, by omega, by omega, by go_num, HGS.out, by have := HSS.out; exact this⟩
          case measure => first | (simp [intOf]; done) | (simp [intOf]; omega)
        · obtain rfl : s = 0 := by omega
          have HSS : Hid (LLs (wr.setCell ⟨g, 0, none⟩ (.slice B y.length d)) b1 b2 (.slice (some ⟨g, 0, none⟩) (ps.length + 1) c2) (ps.take 0 ++ [(.slice B y.length d, y)] ++ ps.drop 0)) := by
            have h := HD.out.2.set (k := 0) (.slice B y.length d, y) (HYR.out _ (grown_then (v := .slice (some ⟨g, 0, none⟩) (ps.length + 1) c2) HG2.out HD.out.1 HAT.out))
            rw [midL_end hs2] at h
            exact h
          go_wp2
          go_ret
          refine ⟨_, _, rfl, HSS.out, ?_, ?_, HAT.out⟩
          · rw [HPL.out]; simp [List.map_take, List.map_drop]
          · exact grown_then (v := .slice (some ⟨g, 0, none⟩) (ps.length + 1) c2) HG2.out (grown_set HD.out.1 _ _) HAT.out

end Go.Proofs.Ytabgmjakkgalgaa

/- The contract of the reference's list of classes, and of the numbers of classes, of both programs; conditions: stated in each. -/
namespace Go.Proofs.Ytabgmjakkgalgaa
open Go.RowKit
set_option maxHeartbeats 4000000
set_option maxRecDepth 100000
set_option linter.unusedSimpArgs false
set_option linter.unusedVariables false

theorem clsP_iff {xs : List Blk} {all m i : Nat} : clsP xs all m i = true ↔ hasB (nth xs i) (lowP all m 15 0 : Nat) = true ∧ (maskB (nth xs i) &&& m == 0) = true ∧ inA all (nth xs i) = true := by
  unfold clsP; rw [Bool.and_eq_true, Bool.and_eq_true, and_assoc]
theorem l05Classes_any (n : Nat) (A : Option Addr) (c : Nat) (xs : List Blk) (hs : isSys n xs) (all : Nat) : ∀ (d m : Nat) (now : List Int) (un : Value) (base : Nat) (w : World), Lead xs all now m → left all m ≤ 3 * d + 2 → now.length + d ≤ 5 → d ≤ 5 → Bl w A xs → Ro w base un now → base ≤ w.heap.size →
    Calls Try.prog 31 #[.agg #[.int .i64 n, .slice A xs.length c], un, .int .i64 (m : Int), .int .i64 (all : Int)] w (CLP w (clsL xs all d now m)) := by
  intro d
  induction d with
  | zero =>
    intro m now un base w hL hd hn _ hA hN hb
    by_cases he : m = all
    · subst he
      rw [clsL, if_pos rfl]
      exact clsEnd_any n A c xs m now un base w hL.ris hA hN (by omega)
    · rw [clsL, if_neg he]
      have hno : ∀ i, i < xs.length → clsP xs all m i = true → False := fun i hi h => by
        obtain ⟨_, h2, h3⟩ := clsP_iff.1 h
        have := left_step (good_mono (hs.2.2.1 i hi).1 hs.1.2) h2 h3
        omega
      have h := clsStep_any n A c xs hs all m now (fun _ => []) un base w hL he hA hN hb (by omega) (fun i hi h => (hno i hi h).elim) (fun i => by simp)
      have e : ∀ k, loopL (fun _ => ([] : List (List Int))) (clsP xs all m) 0 k = [] := by
        intro k
        induction k with
        | zero => rfl
        | succ k ih => rw [loopL, ih]; simp
      rw [e] at h
      exact h
  | succ d ih =>
    intro m now un base w hL hd hn h5 hA hN hb
    by_cases he : m = all
    · subst he
      rw [clsL, if_pos rfl]
      exact clsEnd_any n A c xs m now un base w hL.ris hA hN (by omega)
    · rw [clsL, if_neg he]
      refine clsStep_any n A c xs hs all m now _ un base w hL he hA hN hb (by omega) (fun i hi h b2 un2 w2 hb2 hA2 hN2 => ?_) (fun i => ?_)
      · obtain ⟨h1, h2, h3⟩ := clsP_iff.1 h
        have hst := left_step (good_mono (hs.2.2.1 i hi).1 hs.1.2) h2 h3
        exact ih _ _ un2 b2 w2 (lead_fit hs.1.2 hs.2.2.1 hL he hi h1 h2 h3).2.1 (by omega) (by rw [List.length_append, List.length_singleton]; omega) (by omega) hA2 hN2 hb2
      · refine Nat.le_trans (cls_bd hs.2.1 all d _ _) ?_
        have : 35 ^ d ≤ 35 ^ 5 := Nat.pow_le_pow_right (by omega) (by omega)
        have e : 35 ^ 5 = 52521875 := by decide
        omega
theorem cls_mem {n : Nat} {xs : List Blk} (hs : isSys n xs) {all : Nat} : ∀ d now m, now.length + d ≤ 5 → ∀ x ∈ clsL xs all d now m, x.length ≤ 5 := by
  intro d
  induction d with
  | zero =>
    intro now m h x hx
    rw [clsL] at hx
    split at hx
    · rw [List.mem_singleton] at hx; rw [hx]; omega
    · simp at hx
  | succ d ih =>
    intro now m h x hx
    rw [clsL] at hx
    split at hx
    · rw [List.mem_singleton] at hx; rw [hx]; omega
    · obtain ⟨i, _, _, _, hx⟩ := loopL_mem hx
      exact ih _ _ (by rw [List.length_append, List.length_singleton]; omega) x hx

theorem all_wrap : ∀ n, n < 16 → wrap64 (wrap64 ((2 : Int) ^ n) - 1) = ((allM n : Nat) : Int) := by decide +kernel
theorem l05List_any (n : Nat) (A : Option Addr) (c : Nat) (xs : List Blk) (w : World) (hA : Bl w A xs) (hs : isSys n xs) :
    Calls Try.prog 32 #[.agg #[.int .i64 n, .slice A xs.length c]] w (CLP w (putS (clsL xs (allM n) (n / 3) [] 0) (clsL xs (allM n) (n / 3) [] 0).length)) := by
  have hv15 := hs.1.2
  have hx35 := hs.2.1
  have HCL := Lib.hid (fun un base w => l05Classes_any n A c xs hs (allM n) (n / 3) 0 [] un base w (lead_nil xs (allM_lt (by omega))) (by rw [left_all (by omega)]; omega) (by simp; omega) (by omega))
  have hnd := cls_nodup (xs := xs) (all := allM n) (n / 3) [] 0
  have hml := cls_mem hs (all := allM n) (n / 3) [] 0 (by simp; omega)
  have hbd := cls_bd hs.2.1 (allM n) (n / 3) [] 0
  have h35 : 35 ^ (n / 3) ≤ 35 ^ 5 := Nat.pow_le_pow_right (by omega) (by omega)
  have h5 : 35 ^ 5 = 52521875 := by decide
  have HX := Lib.hid (below_alloc w (.cells #[.int .i64 n, .slice A xs.length c] 30))
  have HA := Lib.hid (hA.below HX.out)
  have HR := Lib.hid (Row.box w 30 (.int .i64 n) (.slice A xs.length c))
  generalize clsL xs (allM n) (n / 3) [] 0 = L at *
  have HML := Lib.hid hml
  have HND := Lib.hid hnd
  clear hA hnd hml
  go_enter Try.func32, Try.ntmps32
  obtain ⟨c0, c1⟩ := HR.out.c2
  have hrl := HR.out.lt
  go_wp2_with fail
  rw [all_wrap n (by omega)]
  have HU0 : Hid (Ro ((w.alloc (.cells #[.int .i64 n, .slice A xs.length c] 30)).alloc (.cells #[] 2)) w.heap.size (.slice (some ⟨w.heap.size + 1, 0, none⟩) 0 0) []) := by
    have h := own_empty (w.alloc (.cells #[.int .i64 n, .slice A xs.length c] 30)) 2 1
    rw [World.size_alloc] at h
    exact own_base h (Nat.le_succ _)
  have HB2 := Lib.hid (below_up HX.out (below_alloc (w.alloc (.cells #[.int .i64 n, .slice A xs.length c] 30)) (.cells #[] 2)))
  have HA2 := Lib.hid (HA.out.below (below_alloc (w.alloc (.cells #[.int .i64 n, .slice A xs.length c] 30)) (.cells #[] 2)))
  refine (HCL.out _ _ _ HA2.out HU0.out (HB2.out.size)).mono ?_
  rintro e w3 ⟨r, qs, rfl, hR, hqs, hb⟩
  have HB3 := Lib.hid (below_up HB2.out hb)
  have HQ3 := Lib.hid (hR.base HB2.out.size HB2.out.size)
  have HQS := Lib.hid hqs
  have hql : qs.length = L.length := by rw [← hqs, List.length_map]
  clear hR hb hqs c0 c1 hrl
  obtain ⟨Br, dr, rfl⟩ := HQ3.out.slice
  have HU3 : Hid (LLs (w3.alloc (.cells #[] 36)) w3.heap.size w.heap.size (.slice (some ⟨w3.heap.size, 0, none⟩) 0 0) []) := ⟨own_empty w3 36 1, fun p hp => by simp at hp⟩
  have HBA := Lib.hid (below_alloc w3 (.cells #[] 36))
  have HPS : Hid (∀ k, k ≤ L.length → (putS L k).length = k ∧ ∀ x ∈ putS L k, ∃ j, j < k ∧ x = nthLL L j) := fun k hk => putS_len HND.out k hk
  have HPN : Hid (∀ k, putS L (k + 1) = putL (putS L k) (nthLL L k)) := fun k => rfl
  have hz3 : w.heap.size ≤ w3.heap.size := HB3.out.size
  have HLM : Hid (∀ j, j < L.length → nthLL L j ∈ L) := fun j hj => by
    have : nthLL L j = L[j] := by simp [nthLL, hj]
    rw [this]; exact List.getElem_mem hj
  go_wp2
  go_loopw [4, 5] (fun u i wr => ∃ k : Nat, k ≤ qs.length ∧ i = .int .i64 k ∧ Hid (Below w3.heap.size w3 wr ∧ ∃ ps, LLs wr w3.heap.size w.heap.size u ps ∧ ps.map (·.2) = putS L k)) (fun _ i _ => qs.length - (intOf i).toNat)
  case atStart => exact ⟨0, by omega, rfl, HBA.out, [], HU3.out, rfl⟩
  case round =>
    obtain ⟨k, hk, rfl, HC⟩ := hrel
    by_cases hlt : k < qs.length
    · obtain ⟨gq, Bq, dq, hBr, hgq, -, p0, -, e9⟩ := (HQ3.out.below HC.out.1).rd hlt
      subst hBr
      have hRk : Ro wr w.heap.size qs[k].1 qs[k].2 := (HQ3.out.below HC.out.1).2 _ (List.getElem_mem hlt)
      have e8 : qs[k].2 = nthLL L k := by rw [← HQS.out]; simp [nthLL, hlt]
      rw [e8, e9] at hRk
      rw [HQS.out] at p0 hRk
      have HRK := Lib.hid hRk
      obtain ⟨ps, hps, hpm⟩ := HC.out.2
      have HP := Lib.hid hps
      have HPM := Lib.hid hpm
      have hpl : ps.length = k := by
        have := (HPS.out k (by omega)).1
        rw [← hpm, List.length_map] at this; exact this
      have hwz : w3.heap.size ≤ wr.heap.size := HC.out.1.size
      have HPX : Hid (∀ p ∈ ps, p.2.length ≤ 1048576) := fun p hp => by
        obtain ⟨j, hj, e⟩ := (HPS.out k (by omega)).2 p.2 (by rw [← hpm]; exact List.mem_map_of_mem hp)
        rw [e]
        have := HML.out _ (HLM.out j (by omega)); omega
      have hyl := HML.out _ (HLM.out k (by omega))
      clear hRk e8 e9 hps hpm
      have HPK := Lib.hid (HPN.out k)
      generalize nthLL L k = y at *
      go_wp2_with fail
      refine (l03Put_any _ w3.heap.size w.heap.size ps (.slice Bq y.length dq) y _ HP.out HRK.out (by omega) HPX.out (by omega) hwz).mono ?_
      rintro e w5 ⟨u', ps', rfl, hL5, hp5, hg5, hat5⟩
      have HL5 := Lib.hid hL5
      have HB5 : Hid (Below w3.heap.size w3 w5) := HC.out.1.grown hg5 hwz (own_block HP.out.1)
      have HM5 : Hid (ps'.map (·.2) = putL (putS L k) y) := by rw [← HPM.out]; exact hp5
      clear hL5 hp5 hg5 hat5
      go_wp2
      go_roundw
      case rel => exact ⟨k + 1, by omega, by go_num, HB5.out, ps', HL5.out, by rw [HM5.out]; exact HPK.out.symm⟩
      case measure => simp [intOf]; omega
    · obtain rfl : k = qs.length := by omega
      obtain ⟨ps, hps, hpm⟩ := HC.out.2
      have HP := Lib.hid (hps.base hz3 (Nat.le_refl _))
      have HPM := Lib.hid (hpm.trans (by rw [hql]))
      have HBF := Lib.hid (below_up HB3.out HC.out.1)
      clear hps hpm
      go_wp2
      go_ret
      exact CLP.mk HP.out HPM.out HBF.out

/-- the numbers of classes and of near classes, and a code -/
noncomputable def ccR (v : Int) (xs : List Blk) : Int × Int × Int :=
  if isSysB v xs = true then (((if v.toNat % 3 = 0 then cntS xs (v.toNat / 3) 0 0 else 0 : Nat) : Int), ((if v.toNat % 3 = 1 then cntS xs (v.toNat / 3) 0 0 else 0 : Nat) : Int), 0) else (0, 0, 1)
theorem ret_iii {a b c p q r : Int} (h : a = p) (h' : b = q) (h'' : c = r) : Ending.returned (.tuple #[.int .i64 a, .int .i64 b, .int .i64 c]) = .returned (.tuple #[.int .i64 p, .int .i64 q, .int .i64 r]) := by rw [h, h', h'']
theorem classes_any (n : Nat) (A : Option Addr) (c : Nat) (xs : List Blk) (w : World) (hA : Bl w A xs) (hs : isSys n xs) :
    Calls Try.prog 36 #[.agg #[.int .i64 n, .slice A xs.length c]] w fun e w' => ∃ B d, e = .returned (.slice B (if n % 3 = 0 then cntS xs (n / 3) 0 0 else 0) d) ∧ Below w.heap.size w w' := by
  have hv := hs.1
  have HCT := Lib.hid (dis_count hs (n / 3))
  have HDT := Lib.hid (fun w hA => disTop_any n A c xs (n / 3) w hA hs (by omega))
  have HM : Hid ((n : Int).tmod 3 = ((n % 3 : Nat) : Int)) := by unfold Hid; rw [Int.tmod_eq_emod_of_nonneg (by omega)]; rfl
  have hm := HM.out
  have HX := Lib.hid (below_alloc w (.cells #[.int .i64 n, .slice A xs.length c] 30))
  have HA := Lib.hid (hA.below HX.out)
  have HR := Lib.hid (Row.box w 30 (.int .i64 n) (.slice A xs.length c))
  have HE3 : Hid ((n : Int) / 3 = ((n / 3 : Nat) : Int)) := by unfold Hid; omega
  have hq : (n : Int).tdiv 3 = ((n / 3 : Nat) : Int) := by rw [Int.tdiv_eq_ediv_of_nonneg (by omega)]; rfl
  clear hs hA
  by_cases h0 : n % 3 = 0
  · rw [h0] at hm
    rw [if_pos h0]
    go_enter Try.func36, Try.ntmps36
    obtain ⟨c0, c1⟩ := HR.out.c2
    have hrl := HR.out.lt
    go_wp2_with fail
    rw [HE3.out]
    refine (HDT.out _ HA.out).mono ?_
    rintro e w3 ⟨u, rfl, hL, hb⟩
    obtain ⟨B, d, rfl⟩ := hL.slice
    rw [HCT.out]
    have HB := Lib.hid (below_up HX.out hb)
    clear hL hb
    go_wp2
    go_ret
    exact ⟨B, d, rfl, HB.out⟩
  · rw [if_neg h0]
    have hne : ((n % 3 : Nat) : Int) ≠ 0 := by omega
    rcases (by omega : n % 3 = 1 ∨ n % 3 = 2) with h | h
    all_goals
      rw [h] at hm
      go_enter Try.func36, Try.ntmps36
      obtain ⟨c0, c1⟩ := HR.out.c2
      have hrl := HR.out.lt
      go_wp2
      go_ret
      exact ⟨none, 0, rfl, HX.out⟩
theorem implCC_any (v : Int) (A : Option Addr) (c : Nat) (xs : List Blk) (w : World) (hA : Bl w A xs) (hl : xs.length ≤ 1048576) :
    Calls Try.prog 11 #[.agg #[.int .i64 v, .slice A xs.length c]] w fun e w' => e = .returned (.tuple #[.int .i64 (ccR v xs).1, .int .i64 (ccR v xs).2.1, .int .i64 (ccR v xs).2.2]) ∧ Below w.heap.size w w' := by
  cases hs : isSysB v xs
  · have HN : Hid (ccR v xs = (0, 0, 1)) := by unfold Hid ccR; simp [hs]
    generalize ccR v xs = R at *
    have HA := Lib.hid hA; clear hA; have HR := Lib.hid (Row.box w 30 (.int .i64 v) (.slice A xs.length c)); have HW := Lib.hid (Since.refl w); go_enter Try.func11, Try.ntmps11; go_wp2_with fail; replace HA := Lib.hid (HA.out.below (below_alloc _ (.cells #[.int .i64 v, .slice A xs.length c] 30))); replace HW := Lib.hid (HW.out.below (below_alloc _ (.cells #[.int .i64 v, .slice A xs.length c] 30)))
    refine (IsSystem_any v A c xs _ HA.out hl).mono ?_; rw [hs]; rintro e w_ ⟨rfl, hb⟩; replace HW := Lib.hid (HW.out.below hb); clear hb
    go_wp2
    go_ret3
    exact ⟨by rw [HN.out]; rfl, HW.out⟩
  · have HS := Lib.hid (isSysB_iff.1 hs)
    have hv := HS.out.1
    obtain ⟨n, rfl⟩ := Int.eq_ofNat_of_zero_le (by omega : 0 ≤ v)
    have HN : Hid (ccR n xs = (((if n % 3 = 0 then cntS xs (n / 3) 0 0 else 0 : Nat) : Int), ((if n % 3 = 1 then cntS xs (n / 3) 0 0 else 0 : Nat) : Int), 0)) := by unfold Hid ccR; rw [if_pos hs]; simp
    have hd5 : n / 3 ≤ 5 := by omega
    have HCT := Lib.hid (dis_count HS.out (n / 3))
    have hbd := dis_bd HS.out.2.1 (n / 3) []
    have h35 : 35 ^ (n / 3) ≤ 35 ^ 5 := Nat.pow_le_pow_right (by omega) hd5
    have h5 : 35 ^ 5 = 52521875 := by decide
    have HQ : Hid ((n : Int).tdiv 3 = ((n / 3 : Nat) : Int)) := by unfold Hid; rw [Int.tdiv_eq_ediv_of_nonneg (by omega)]; rfl
    have HM : Hid ((n : Int).tmod 3 = ((n % 3 : Nat) : Int)) := by unfold Hid; rw [Int.tmod_eq_emod_of_nonneg (by omega)]; rfl
    have HW3 : Hid (wrap64 ((n / 3 : Nat) : Int) = ((n / 3 : Nat) : Int)) := by unfold Hid; go_unwrap
    generalize ccR n xs = R at *
    have hq := HQ.out
    have hm := HM.out
    have HCA := Lib.hid (fun w hA => classes_any n A c xs w hA HS.out)
    have HE3 : Hid ((n : Int) / 3 = ((n / 3 : Nat) : Int)) := by unfold Hid; omega
    have hcb : cntS xs (n / 3) 0 0 ≤ 52521875 := by have := HCT.out; omega
    have hcl : (if n % 3 = 0 then cntS xs (n / 3) 0 0 else 0) ≤ 52521875 := by split <;> omega
    generalize hK : (if n % 3 = 0 then cntS xs (n / 3) 0 0 else 0) = K at *
    by_cases h1 : n % 3 = 1
    · rw [h1] at hm
      rw [if_pos h1] at HN
      have HA := Lib.hid hA; clear hA; have HR := Lib.hid (Row.box w 30 (.int .i64 n) (.slice A xs.length c)); have HW := Lib.hid (Since.refl w); go_enter Try.func11, Try.ntmps11; go_wp2_with fail; replace HA := Lib.hid (HA.out.below (below_alloc _ (.cells #[.int .i64 n, .slice A xs.length c] 30))); replace HW := Lib.hid (HW.out.below (below_alloc _ (.cells #[.int .i64 n, .slice A xs.length c] 30)))
      refine (IsSystem_any n A c xs _ HA.out hl).mono ?_; rw [hs]; rintro e w_ ⟨rfl, hb⟩; replace HA := Lib.hid (HA.out.below hb); replace HW := Lib.hid (HW.out.below hb); replace HR := Lib.hid (HR.out.below hb); clear hb; (try clear c0 c1); obtain ⟨c0, c1⟩ := HR.out.c2
      go_wp2_with fail
      rw [HE3.out]
      refine (disTop_any n A c xs (n / 3) _ HA.out HS.out hd5).mono ?_
      rintro e w3 ⟨u, rfl, hL, hb⟩
      obtain ⟨B, e, rfl⟩ := hL.slice
      rw [HCT.out]
      clear hL
      replace HA := Lib.hid (HA.out.below hb); replace HW := Lib.hid (HW.out.below hb); replace HR := Lib.hid (HR.out.below hb); clear hb; (try clear c0 c1); obtain ⟨c0, c1⟩ := HR.out.c2
      have hrl := HR.out.lt
      go_wp2_with fail
      refine (HCA.out _ HA.out).mono ?_
      rintro e w4 ⟨B4, d4, rfl, hb⟩
      replace HW := Lib.hid (HW.out.below hb); clear hb
      go_wp2
      go_ret3
      exact ⟨by rw [HN.out]; rfl, HW.out⟩
    · rw [if_neg h1] at HN
      rcases (by omega : n % 3 = 0 ∨ n % 3 = 2) with h | h
      all_goals
        rw [h] at hm
        have HA := Lib.hid hA; clear hA; have HR := Lib.hid (Row.box w 30 (.int .i64 n) (.slice A xs.length c)); have HW := Lib.hid (Since.refl w); go_enter Try.func11, Try.ntmps11; go_wp2_with fail; replace HA := Lib.hid (HA.out.below (below_alloc _ (.cells #[.int .i64 n, .slice A xs.length c] 30))); replace HW := Lib.hid (HW.out.below (below_alloc _ (.cells #[.int .i64 n, .slice A xs.length c] 30)))
        refine (IsSystem_any n A c xs _ HA.out hl).mono ?_; rw [hs]; rintro e w_ ⟨rfl, hb⟩; replace HA := Lib.hid (HA.out.below hb); replace HW := Lib.hid (HW.out.below hb); replace HR := Lib.hid (HR.out.below hb); clear hb; (try clear c0 c1); obtain ⟨c0, c1⟩ := HR.out.c2
        go_wp2_with fail
        refine (HCA.out _ HA.out).mono ?_
        rintro e w4 ⟨B4, d4, rfl, hb⟩
        replace HW := Lib.hid (HW.out.below hb); clear hb
        go_wp2
        go_ret3
        exact ⟨by rw [HN.out]; rfl, HW.out⟩

theorem but_wrap : ∀ n, n < 16 → ∀ q, q < n → wrap64 (wrap64 (wrap64 ((2 : Int) ^ n) - 1) - wrap64 ((2 : Int) ^ q)) = ((butM n q : Nat) : Int) := by decide +kernel
theorem specCC_any (v : Int) (A : Option Addr) (c : Nat) (xs : List Blk) (w : World) (hA : Bl w A xs) (hl : xs.length ≤ 1048576) :
    Calls Try.prog 9 #[.agg #[.int .i64 v, .slice A xs.length c]] w fun e w' => e = .returned (.tuple #[.int .i64 (ccR v xs).1, .int .i64 (ccR v xs).2.1, .int .i64 (ccR v xs).2.2]) ∧ Below w.heap.size w w' := by
  cases hs : isSysB v xs
  · have HN : Hid (ccR v xs = (0, 0, 1)) := by unfold Hid ccR; simp [hs]
    generalize ccR v xs = R at *
    have HA := Lib.hid hA; clear hA; have HR := Lib.hid (Row.box w 30 (.int .i64 v) (.slice A xs.length c)); have HW := Lib.hid (Since.refl w); go_enter Try.func9, Try.ntmps9; go_wp2_with fail; replace HA := Lib.hid (HA.out.below (below_alloc _ (.cells #[.int .i64 v, .slice A xs.length c] 30))); replace HW := Lib.hid (HW.out.below (below_alloc _ (.cells #[.int .i64 v, .slice A xs.length c] 30)))
    refine (l01Is_any v A c xs _ HA.out hl).mono ?_; rw [hs]; rintro e w_ ⟨rfl, hb⟩; replace HW := Lib.hid (HW.out.below hb); clear hb
    go_wp2
    go_ret3
    exact ⟨by rw [HN.out]; rfl, HW.out⟩
  · have HS := Lib.hid (isSysB_iff.1 hs)
    have hv := HS.out.1
    obtain ⟨n, rfl⟩ := Int.eq_ofNat_of_zero_le (by omega : 0 ≤ v)
    have HN : Hid (ccR n xs = (((clsL xs (allM n) (n / 3) [] 0).length : Int), ((sumN (fun q => (clsL xs (butM n q) (n / 3) [] 0).length) n : Nat) : Int), 0)) := by
      unfold Hid ccR
      rw [if_pos hs, full_count HS.out.2.2.1 (by omega), near_count HS.out.2.2.1 (by omega) (by omega)]; simp
    have HC1 := Lib.hid (fun q (hq : q < n) un base w => l05Classes_any n A c xs HS.out (butM n q) (n / 3) 0 [] un base w (lead_nil xs (butM_lt (by omega))) (by rw [left_but (by omega) hq]; omega) (by simp; omega) (by omega))
    have HC2 := Lib.hid (fun w hA => l05List_any n A c xs w hA HS.out)
    have HPS : Hid ((putS (clsL xs (allM n) (n / 3) [] 0) (clsL xs (allM n) (n / 3) [] 0).length).length = (clsL xs (allM n) (n / 3) [] 0).length) := (putS_len (cls_nodup _ _ _) _ (Nat.le_refl _)).1
    have h35 : 35 ^ (n / 3) ≤ 35 ^ 5 := Nat.pow_le_pow_right (by omega) (by omega)
    have h5 : 35 ^ 5 = 52521875 := by decide
    have hbd := cls_bd HS.out.2.1 (allM n) (n / 3) [] 0
    have HBD : Hid (∀ q, (clsL xs (butM n q) (n / 3) [] 0).length ≤ 52521875) := fun q => by have := cls_bd HS.out.2.1 (butM n q) (n / 3) [] 0; omega
    have HSB : Hid (∀ m, sumN (fun q => (clsL xs (butM n q) (n / 3) [] 0).length) m ≤ m * 52521875) := fun m => by
      induction m with
      | zero => simp [sumN]
      | succ m ih => rw [sumN, Nat.succ_mul]; have := HBD.out m; omega
    have HSN : Hid (∀ m, sumN (fun q => (clsL xs (butM n q) (n / 3) [] 0).length) (m + 1) = sumN (fun q => (clsL xs (butM n q) (n / 3) [] 0).length) m + (clsL xs (butM n m) (n / 3) [] 0).length) := fun m => rfl
    have HS0 : Hid (sumN (fun q => (clsL xs (butM n q) (n / 3) [] 0).length) 0 = 0) := rfl
    generalize ccR n xs = R at *
    generalize sumN (fun q => (clsL xs (butM n q) (n / 3) [] 0).length) = S at *
    generalize clsL xs (allM n) (n / 3) [] 0 = L at *
    have HA := Lib.hid hA; clear hA; have HR := Lib.hid (Row.box w 30 (.int .i64 n) (.slice A xs.length c)); have HW := Lib.hid (Since.refl w); go_enter Try.func9, Try.ntmps9; go_wp2_with fail; replace HA := Lib.hid (HA.out.below (below_alloc _ (.cells #[.int .i64 n, .slice A xs.length c] 30))); replace HW := Lib.hid (HW.out.below (below_alloc _ (.cells #[.int .i64 n, .slice A xs.length c] 30)))
    refine (l01Is_any n A c xs _ HA.out hl).mono ?_; rw [hs]; rintro e w_ ⟨rfl, hb⟩; replace HA := Lib.hid (HA.out.below hb); replace HW := Lib.hid (HW.out.below hb); replace HR := Lib.hid (HR.out.below hb); clear hb; (try clear c0 c1); obtain ⟨c0, c1⟩ := HR.out.c2
    have HBB : Hid (Below w_.heap.size w_ w_) := Below.refl _ _
    go_wp2
    clear c0 c1
    go_loopw [6, 7] (fun x i wr => ∃ q : Nat, q ≤ n ∧ i = .int .i64 q ∧ x = .int .i64 (S q : Nat) ∧ Hid (Below w_.heap.size w_ wr)) (fun _ i _ => n - (intOf i).toNat)
    case atStart => exact ⟨0, by omega, rfl, by rw [HS0.out]; rfl, Below.refl _ _⟩
    case round =>
      obtain ⟨q, hq, rfl, rfl, HD⟩ := hrel
      obtain ⟨c0, c1⟩ := (HR.out.below HD.out).c2
      have hrl := (HR.out.below HD.out).lt
      have hsb := HSB.out q
      have hsb2 : q * 52521875 ≤ 15 * 52521875 := Nat.mul_le_mul_right _ (by omega)
      by_cases hlt : q < n
      · go_wp2_with fail
        rw [but_wrap n (by omega) q hlt]
        have HU0 : Hid (Ro (wr.alloc (.cells #[] 2)) wr.heap.size (.slice (some ⟨wr.heap.size, 0, none⟩) 0 0) []) := own_empty wr 2 1
        have HBA := Lib.hid (below_up HD.out (below_alloc wr (.cells #[] 2)))
        refine (HC1.out q hlt _ _ _ (HA.out.below HBA.out) HU0.out (by simp)).mono ?_
        rintro e w4 ⟨u, ps, rfl, hL, hps, hb⟩
        obtain ⟨B4, d4, rfl⟩ := hL.slice
        have hpl : ps.length = (clsL xs (butM n q) (n / 3) [] 0).length := by rw [← hps, List.length_map]
        rw [hpl]
        have HSQ := Lib.hid (HSN.out q)
        have hbq := HBD.out q
        have HB4 := Lib.hid (below_up HBA.out hb)
        clear hL hps hb hpl
        generalize (clsL xs (butM n q) (n / 3) [] 0).length = m at *
        go_wp2
        go_roundw
        case rel => exact ⟨q + 1, by omega, by go_num, by rw [HSQ.out]; go_num, HB4.out⟩
        case measure => simp [intOf]; omega
      · obtain rfl : q = n := by omega
        go_wp2_with fail
        refine (HC2.out _ (HA.out.below HD.out)).mono ?_
        rintro e w4 ⟨u, ps, rfl, hL, hps, hb⟩
        have hpl : ps.length = L.length := by rw [← HPS.out, ← hps, List.length_map]
        obtain ⟨B4, d4, rfl⟩ := hL.slice
        rw [hpl]
        have HWF := Lib.hid (HW.out.below (below_up HD.out hb))
        clear hL hps hb
        go_wp2
        go_ret3
        exact ⟨by rw [HN.out]; rfl, HWF.out⟩

end Go.Proofs.Ytabgmjakkgalgaa
