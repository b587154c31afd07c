/- Plain laws and contracts, part 7; conditions: stated in each. -/
import Derived.Deep.RegionHeld3
import Derived.Test.YtabgmjakkgalgaaB3
import Derived.Test.YtabgmjakkgalgaaB5
import Derived.Test.YtabgmjakkgalgaaB6
set_option linter.unusedSimpArgs false
set_option linter.unusedVariables false
/- Contracts of CompletionsOf, of the reference and of the program; conditions: stated in each. -/
namespace Go.Proofs.Ytabgmjakkgalgaa
open Go.RowKit
set_option maxHeartbeats 2000000
set_option maxRecDepth 100000
set_option linter.unusedSimpArgs false
set_option linter.unusedVariables false

/-- all completions, if they are not too many, and a code -/
noncomputable def cofR (v : Int) (xs : List Blk) : List (List Blk) × Int := if (cmpR v xs 201).2 ≠ 0 then ([], (cmpR v xs 201).2) else if 200 < (cmpR v xs 201).1.length then ([], 3) else ((cmpR v xs 201).1, 0)
theorem cofR_bad {v : Int} {xs : List Blk} (h : (cmpR v xs 201).2 ≠ 0) : cofR v xs = ([], (cmpR v xs 201).2) := by unfold cofR; rw [if_pos h]
theorem cofR_many {v : Int} {xs : List Blk} (h : (cmpR v xs 201).2 = 0) (k : 200 < (cmpR v xs 201).1.length) : cofR v xs = ([], 3) := by unfold cofR; rw [if_neg (by omega), if_pos k]
theorem cofR_all {v : Int} {xs : List Blk} (h : (cmpR v xs 201).2 = 0) (k : ¬ 200 < (cmpR v xs 201).1.length) : cofR v xs = ((cmpR v xs 201).1, 0) := by unfold cofR; rw [if_neg (by omega), if_neg k]
/-- The call returned a list of systems in rows of its own and a code. -/
def LSP (w : World) (n : Nat) (L : List (List Blk)) (k : Int) (e : Ending) (w' : World) : Prop :=
  ∃ A' c' S, e = .returned (.tuple #[.slice A' L.length c', .int .i64 k]) ∧ LSS S w' w.heap.size n (.slice A' L.length c') L ∧ Below w.heap.size w w'
theorem LSP.none {w w' : World} {n : Nat} {L : List (List Blk)} {k k' : Int} (hL : L = []) (hk : k' = k) (hb : Below w.heap.size w w') : LSP w n L k' (.returned (.tuple #[.slice Option.none 0 0, .int .i64 k])) w' := by
  subst hL hk
  exact ⟨Option.none, 0, _, rfl, LSS.nil _ _ _, hb⟩
theorem LSP.mk {w w' : World} {n : Nat} {S : Nat → Prop} {A : Option Addr} {c : Nat} {L L' : List (List Blk)} {k k' : Int} (h : LSS S w' w.heap.size n (.slice A L.length c) L) (hL : L' = L) (hk : k' = k) (hb : Below w.heap.size w w') : LSP w n L' k' (.returned (.tuple #[.slice A L.length c, .int .i64 k])) w' := by
  subst hL hk
  exact ⟨A, c, S, rfl, h, hb⟩
theorem implCof_any (v : Int) (A : Option Addr) (c : Nat) (xs : List Blk) (w : World) (hA : Bl w A xs) (hl : xs.length ≤ 1048576) :
    Calls Try.prog 25 #[.agg #[.int .i64 v, .slice A xs.length c]] w (LSP w v.toNat (cofR v xs).1 (cofR v xs).2) := by
  have HCA := Lib.hid (fun W hW => completions_any v A c xs 201 W hW hl (by omega) (by omega))
  have HF := Lib.hid (And.intro (cofR_bad (v := v) (xs := xs)) (And.intro (cofR_many (v := v) (xs := xs)) (cofR_all (v := v) (xs := xs))))
  generalize cofR v xs = R at *
  generalize hQ : cmpR v xs 201 = Q at *
  clear hQ
  obtain ⟨L, q⟩ := Q
  have HA := Lib.hid hA; clear hA; have HR := Lib.hid (Row.box w 30 (.int .i64 v) (.slice A xs.length c)); have HW := Lib.hid (Since.refl w); go_enter Try.func25, Try.ntmps25; go_wp2_with fail; replace HA := Lib.hid (HA.out.below (below_alloc _ (.cells #[.int .i64 v, .slice A xs.length c] 30))); replace HW := Lib.hid (HW.out.below (below_alloc _ (.cells #[.int .i64 v, .slice A xs.length c] 30)))
  refine (HCA.out _ HA.out).mono ?_
  rintro e w2 ⟨A', c', S, rfl, hC2, hb⟩
  have HC2 : Hid (LSS S w2 w.heap.size v.toNat (.slice A' L.length c') L) := hC2.base (by rw [World.size_alloc]; omega)
  have HW2 := Lib.hid (HW.out.below hb)
  clear hb hC2
  by_cases hq : q = 0
  · obtain rfl := hq
    by_cases hL : 200 < L.length
    · have HN : Hid (R = ([], 3)) := HF.out.2.1 (by first | rfl | trivial) hL
      go_wp2
      go_ret2
      exact LSP.none (by rw [HN.out]) (by rw [HN.out]) HW2.out
    · have HN : Hid (R = (L, 0)) := HF.out.2.2 (by first | rfl | trivial) hL
      go_wp2
      go_ret2
      exact LSP.mk HC2.out (by rw [HN.out]) (by rw [HN.out]) HW2.out
  · have HN : Hid (R = ([], q)) := HF.out.1 hq
    go_wp2
    go_ret2
    exact LSP.none (by rw [HN.out]) (by rw [HN.out]) HW2.out
theorem specCof_any (v : Int) (A : Option Addr) (c : Nat) (xs : List Blk) (w : World) (hA : Bl w A xs) (hl : xs.length ≤ 1048576) :
    Calls Try.prog 24 #[.agg #[.int .i64 v, .slice A xs.length c]] w (LSP w v.toNat (cofR v xs).1 (cofR v xs).2) := by
  have HCD := Lib.hid (fun W hW => l08Code_any v A c xs 201 W hW hl)
  have HF := Lib.hid (And.intro (cofR_bad (v := v) (xs := xs)) (And.intro (cofR_many (v := v) (xs := xs)) (cofR_all (v := v) (xs := xs))))
  have HAL : Hid ((cmpR v xs 201).2 = 0 → ∀ (W : World), Bl W A xs → Calls Try.prog 51 #[.agg #[.int .i64 v, .slice A xs.length c], .int .i64 (201 : Nat)] W fun e w' => ∃ A' c' S, e = .returned (.slice A' (cmpR v xs 201).1.length c') ∧ LSS S w' W.heap.size v.toNat (.slice A' (cmpR v xs 201).1.length c') (cmpR v xs 201).1 ∧ Below W.heap.size W w') := by
    intro h W hW
    obtain ⟨hs, ht, hm⟩ := cmpR_zero h
    have hv := (isSysB_iff.1 hs).1
    obtain ⟨n, rfl⟩ := Int.eq_ofNat_of_zero_le (by omega : 0 ≤ v)
    rw [cmpR_yes hs ht hm]
    exact l08All_any n A c xs 201 W hW (isSysB_iff.1 hs) (told_nat ht) (by omega) (by omega)
  generalize cofR v xs = R at *
  generalize hQ : cmpR v xs 201 = Q at *
  clear hQ
  obtain ⟨L, q⟩ := Q
  have HA := Lib.hid hA; clear hA; have HR := Lib.hid (Row.box w 30 (.int .i64 v) (.slice A xs.length c)); have HW := Lib.hid (Since.refl w); go_enter Try.func24, Try.ntmps24; go_wp2_with fail; replace HA := Lib.hid (HA.out.below (below_alloc _ (.cells #[.int .i64 v, .slice A xs.length c] 30))); replace HW := Lib.hid (HW.out.below (below_alloc _ (.cells #[.int .i64 v, .slice A xs.length c] 30)))
  refine (HCD.out _ HA.out).mono ?_; rintro e w1 ⟨rfl, hb⟩; replace HA := Lib.hid (HA.out.below hb); replace HW := Lib.hid (HW.out.below hb); replace HR := Lib.hid (HR.out.below hb); clear hb; (try clear c0 c1); obtain ⟨c0, c1⟩ := HR.out.c2
  by_cases hq : q = 0
  · obtain rfl := hq
    have HAL1 := Lib.hid (HAL.out (by first | rfl | trivial))
    go_wp2_with fail
    refine (HAL1.out _ HA.out).mono ?_
    rintro e w2 ⟨A', c', S, rfl, hC2, hb⟩
    have HC2 : Hid (LSS S w2 w.heap.size v.toNat (.slice A' L.length c') L) := hC2.base HW.out.size
    have HW2 := Lib.hid (HW.out.below hb)
    clear hb hC2
    by_cases hL : 200 < L.length
    · have HN : Hid (R = ([], 3)) := HF.out.2.1 (by first | rfl | trivial) hL
      go_wp2
      go_ret2
      exact LSP.none (by rw [HN.out]) (by rw [HN.out]) HW2.out
    · have HN : Hid (R = (L, 0)) := HF.out.2.2 (by first | rfl | trivial) hL
      go_wp2
      go_ret2
      exact LSP.mk HC2.out (by rw [HN.out]) (by rw [HN.out]) HW2.out
  · have HN : Hid (R = ([], q)) := HF.out.1 hq
    have hq' : (q != 0) = true := by simpa using hq
    go_wp2
    go_ret2
    exact LSP.none (by rw [HN.out]) (by rw [HN.out]) HW.out

end Go.Proofs.Ytabgmjakkgalgaa

/- Lists of lists of numbers in a law's own functions; conditions: stated in each. -/
namespace Go.Proofs.Ytabgmjakkgalgaa
open Go.ChangeShapes Go.WideShapes Go.ChangeAt Go.RowKit Go.Deep Go.Joins
set_option maxHeartbeats 400000
set_option maxRecDepth 100000
set_option linter.unusedSimpArgs false
set_option linter.unusedVariables false

/-- the lengths of the first lists, added up -/
def offL (xss : List (List Int)) : Nat → Nat
  | 0 => 0
  | k + 1 => offL xss k + (nthLL xss k).length
theorem offL_mono (xss : List (List Int)) {j : Nat} : ∀ {k}, j ≤ k → offL xss j ≤ offL xss k := by
  intro k
  induction k with
  | zero => intro h; have : j = 0 := by omega
            subst this; exact Nat.le_refl _
  | succ k ih =>
    intro h
    by_cases e : j = k + 1
    · subst e; exact Nat.le_refl _
    · have := ih (by omega); rw [offL]; omega
/-- A is a row of lists that hold k0, k0 + 1, .. -/
def MkL (w : World) (A : Option Addr) (xss : List (List Int)) (k0 : Int) : Prop :=
  ∀ k, k < xss.length → ∃ g B d, A = some ⟨g, 0, none⟩ ∧ g < w.heap.size ∧ w.cell? ⟨g, k, none⟩ = some (.slice B (nthLL xss k).length d) ∧ Mk w 2 B (nthLL xss k).length (k0 + offL xss k)
theorem MkL.below {w w' : World} {A : Option Addr} {xss : List (List Int)} {k0 : Int} (h : MkL w A xss k0) (hb : Below w.heap.size w w') : MkL w' A xss k0 := by
  intro k hk
  obtain ⟨g, B, d, h1, h2, h3, h4⟩ := h k hk
  exact ⟨g, B, d, h1, Nat.lt_of_lt_of_le h2 hb.size, (hb.cell (p := ⟨g, k, none⟩) h2).trans h3, h4.below hb⟩
theorem Mk.kept {w w' : World} {t : TypeId} {B : Option Addr} {n : Nat} {k : Int} (h : Mk w t B n k) (hk : ∀ b, B.map Addr.block = some b → w'.heap[b]? = w.heap[b]?) : Mk w' t B n k := by
  rcases h with h | ⟨g, cur, rfl, hR, r⟩
  · exact .inl h
  · exact .inr ⟨g, cur, rfl, (hk g rfl).trans hR, r⟩
theorem Wr.kept {w w' : World} {t : TypeId} {B : Option Addr} {n : Nat} (h : Wr w t B n) (hk : ∀ b, B.map Addr.block = some b → w'.heap[b]? = w.heap[b]?) : Wr w' t B n := by
  rcases h with h | ⟨g, cur, rfl, hR, r⟩
  · exact .inl h
  · exact .inr ⟨g, cur, rfl, (hk g rfl).trans hR, r⟩
theorem slice_block (B : Option Addr) (n d : Nat) : (Value.slice B n d).ownBlock = B.map Addr.block := by
  cases B with
  | none => rfl
  | some a => rfl

theorem LLd.grown {w w' : World} {base : Nat} {u : Value} {B : Option Addr} {xss : List (List Int)} (h : LLd w base u xss) (hg : w.grownBy w' (B.map Addr.block)) (hB : ∀ k, B.map Addr.block = some k → k < base) : LLd w' base u xss := by
  obtain ⟨hs, ho, hi, hd⟩ := h
  have key : ∀ {x : Value} {t : TypeId} {size n : Nat} {ys : List Value}, w.ownsRow base t size x n ys → w'.ownsRow base t size x n ys := by
    intro x t size n ys hx
    refine World.ownsRow.kept hx hg ?_
    cases e : x.ownBlock with
    | none => exact .inl rfl
    | some b => right; intro e2; have := hB b e2.symm; have := (hx.lt b e).1; omega
  exact ⟨hs, key ho, fun k hk => ⟨key (hi k hk).1, (hi k hk).2⟩, hd⟩
theorem offL_le {xss : List (List Int)} {m : Nat} (h : ∀ k, k < xss.length → (nthLL xss k).length ≤ m) : ∀ j, j ≤ xss.length → offL xss j ≤ j * m := by
  intro j
  induction j with
  | zero => intro _; simp [offL]
  | succ j ih =>
    intro hj
    have h1 := ih (by omega); have h2 := h j (by omega)
    rw [offL, Nat.succ_mul]; omega

theorem Since.mark {w W wr : World} {B : Nat} (h : Since w W) (h' : Below B W wr) (hB : w.heap.size ≤ B) : Since w wr := Below.trans h (h'.mono hB)

end Go.Proofs.Ytabgmjakkgalgaa

/- Lists of systems in a law's own functions; conditions: stated in each. -/
namespace Go.Proofs.Ytabgmjakkgalgaa
open Go.ChangeShapes Go.WideShapes Go.ChangeAt Go.RowKit Go.Deep Go.Joins
set_option maxHeartbeats 1000000
set_option maxRecDepth 100000
set_option linter.unusedSimpArgs false
set_option linter.unusedVariables false

theorem eqSystem_same (v : Int) (A B : Option Addr) (c d : Nat) (xs : List Blk) (w : World) (hA : Bl w A xs) (hB : Bl w B xs) (hl : xs.length ≤ 1073741824) :
    Calls Try.prog 12 #[.agg #[.int .i64 v, .slice A xs.length c], .agg #[.int .i64 v, .slice B xs.length d]] w fun e w' => e = .returned (.bool true) ∧ Below w.heap.size w w' := by
  have h := eqSystem_any v v A B c d xs xs w hA hB hl hl
  rwa [eqSys_true ⟨rfl, rfl⟩] at h
theorem eqSystemS_any (S1 S2 : Nat → Prop) (b1 b2 n : Nat) (A B : Option Addr) (c d : Nat) (ss : List (List Blk)) (w : World) (hA : LSS S1 w b1 n (.slice A ss.length c) ss) (hB : LSS S2 w b2 n (.slice B ss.length d) ss) (hl : ss.length ≤ 1000000) (hx : ∀ k, k < ss.length → (nthB ss k).length ≤ 1073741824) :
    Calls Try.prog 26 #[.slice A ss.length c, .slice B ss.length d] w fun e w' => e = .returned (.bool true) ∧ Below w.heap.size w w' := by
  have HA := Lib.hid hA; have HB := Lib.hid hB; have HX := Lib.hid hx
  clear hA hB hx
  go_enter Try.func26, Try.ntmps26
  go_wp2
  go_loopw [5] (fun i wr => ∃ k : Nat, k ≤ ss.length ∧ i = .int .i64 k ∧ Hid (Below w.heap.size w wr)) (fun i _ => ss.length - (intOf i).toNat)
  case atStart => exact ⟨0, by omega, rfl, Below.refl _ _⟩
  case round =>
    obtain ⟨k, hk, rfl, HC⟩ := hrel
    by_cases hlt : k < ss.length
    · obtain ⟨g1, B1, d1, hA1, hg1, _, p0, p1, hI1⟩ := ((HA.out.below HC.out).rd hlt)
      subst hA1
      obtain ⟨g2, B2, d2, hA2, hg2, _, q0, q1, hI2⟩ := ((HB.out.below HC.out).rd hlt)
      subst hA2
      have HI1 := Lib.hid hI1.bl; have HI2 := Lib.hid hI2.bl
      have hxk := HX.out k hlt
      have HKEEP := Lib.hid (And.intro (And.intro p0 p1) (And.intro q0 q1))
      clear hI1 hI2
      go_wp2
      clear p0 q0 p1 q1
      go_region_held3 (fun w' => (w'.cell? ⟨g1, k * 2, none⟩ = some (.int .i64 n) ∧ w'.cell? ⟨g1, k * 2 + 1, none⟩ = some (.slice B1 (nthB ss k).length d1)) ∧ (w'.cell? ⟨g2, k * 2, none⟩ = some (.int .i64 n) ∧ w'.cell? ⟨g2, k * 2 + 1, none⟩ = some (.slice B2 (nthB ss k).length d2))) (first | exact HKEEP.out) (first
        | (go_at_call 12
           refine (eqSystem_same n B1 B2 d1 d2 (nthB ss k) _ (HI1.out.below (below_drew _)) (HI2.out.below (below_drew _)) hxk).mono ?_
           rintro e w1 ⟨rfl, hb⟩
           have HB1 := Lib.hid (below_up HC.out (below_up (below_drew wr) hb))
           have o := old_cells (below_up (below_drew wr) hb)
           replace HKEEP := Lib.hid (And.intro (And.intro ((o.1 g1 (k * 2) hg1).trans HKEEP.out.1.1) ((o.1 g1 (k * 2 + 1) hg1).trans HKEEP.out.1.2)) (And.intro ((o.1 g2 (k * 2) hg2).trans HKEEP.out.2.1) ((o.1 g2 (k * 2 + 1) hg2).trans HKEEP.out.2.2)))
           clear hb o))
      go_wp2
      go_roundw
      case rel => exact ⟨k + 1, by omega, by go_num, HB1.out⟩
      case measure => simp [intOf]; omega
    · obtain rfl : k = ss.length := by omega
      go_wp2
      go_ret
      exact ⟨rfl, HC.out⟩

/-- the memory words of the first systems, added up -/
def offS (ss : List (List Blk)) : Nat → Nat
  | 0 => 0
  | k + 1 => offS ss k + 1 + (nthB ss k).length * 3
theorem offS_mono (ss : List (List Blk)) {j : Nat} : ∀ {k}, j ≤ k → offS ss j ≤ offS ss k := by
  intro k
  induction k with
  | zero => intro h; have : j = 0 := by omega
            subst this; exact Nat.le_refl _
  | succ k ih =>
    intro h
    by_cases e : j = k + 1
    · subst e; exact Nat.le_refl _
    · have := ih (by omega); rw [offS]; omega
/-- A is a row of systems that hold k0, k0 + 1, .. -/
def MkS (w : World) (A : Option Addr) (ss : List (List Blk)) (k0 : Int) : Prop :=
  ∀ k, k < ss.length → ∃ g B d, A = some ⟨g, 0, none⟩ ∧ g < w.heap.size ∧ w.cell? ⟨g, k * 2, none⟩ = some (.int .i64 (k0 + offS ss k)) ∧ w.cell? ⟨g, k * 2 + 1, none⟩ = some (.slice B (nthB ss k).length d) ∧ Mk w 80 B ((nthB ss k).length * 3) (k0 + offS ss k + 1)
theorem MkS.below {w w' : World} {A : Option Addr} {ss : List (List Blk)} {k0 : Int} (h : MkS w A ss k0) (hb : Below w.heap.size w w') : MkS w' A ss k0 := by
  intro k hk
  obtain ⟨g, B, d, h1, h2, h3, h5, h4⟩ := h k hk
  exact ⟨g, B, d, h1, Nat.lt_of_lt_of_le h2 hb.size, (hb.cell (p := ⟨g, _, none⟩) h2).trans h3, (hb.cell (p := ⟨g, _, none⟩) h2).trans h5, h4.below hb⟩

theorem heldSystemS_any (A : Option Addr) (c : Nat) (ss : List (List Blk)) (w : World) (hA : MkS w A ss 1) (hl : ss.length ≤ 1000000) (ho : offS ss ss.length ≤ 100000000) :
    Calls Try.prog 28 #[.slice A ss.length c, .int .i64 1] w fun e w' => e = .returned (.int .i64 (1 + (offS ss ss.length : Nat))) ∧ w = w' := by
  have HA := Lib.hid hA
  have HMO : Hid (∀ k, k ≤ ss.length → offS ss k ≤ 100000000) := fun k hk => Nat.le_trans (offS_mono ss hk) ho
  have HST : Hid (∀ k, offS ss (k + 1) = offS ss k + 1 + (nthB ss k).length * 3) := fun k => rfl
  clear hA
  go_enter Try.func28, Try.ntmps28
  go_wp2
  go_loop [1, 5] (fun s i => ∃ k : Nat, k ≤ ss.length ∧ i = .int .i64 k ∧ s = .int .i64 (1 + (offS ss k : Nat))) (fun _ i => ss.length - (intOf i).toNat)
  case atStart => exact ⟨0, by omega, rfl, rfl⟩
  case round =>
    obtain ⟨k, hk, rfl, rfl⟩ := hrel
    by_cases hlt : k < ss.length
    · obtain ⟨g, B, d, hA1, hg, p0, p1, hM⟩ := HA.out k hlt
      subst hA1
      have HM := Lib.hid hM
      have hm1 := HMO.out k hk
      have hm2 := HMO.out (k + 1) hlt
      have HSk := HST.out k
      rw [HSk] at hm2
      have HSH := Lib.hid HSk
      clear hM HSk
      go_wp2_with fail
      refine (heldBlockS_any B (nthB ss k).length d (1 + (offS ss k : Nat) + 1) _ HM.out (by omega) (by omega) (by omega)).mono ?_
      rintro e w' ⟨rfl, rfl⟩
      go_wp2
      go_round
      case rel => exact ⟨k + 1, by omega, by go_num, by rw [HSH.out]; exact val_int (by push_cast; omega)⟩
      case measure => simp [intOf]; omega
    · obtain rfl : k = ss.length := by omega
      go_wp2
      go_ret
      exact ⟨rfl, rfl⟩

theorem markSystemS_any (S : Nat → Prop) (base n m : Nat) (A : Option Addr) (c : Nat) (ss : List (List Blk)) (w : World) (hA : LSS S w base n (.slice A m c) ss) (hm : ss.length = m) (hl : m ≤ 1000000) (ho : offS ss m ≤ 100000000) :
    Calls Try.prog 27 #[.slice A m c, .int .i64 1] w fun e w' => e = .returned (.int .i64 (1 + (offS ss m : Nat))) ∧ MkS w' A ss 1 ∧ Below base w w' := by
  obtain ⟨_, hs, hown, hel, hdis, _, _⟩ := hA
  rw [hm] at hown hel hdis
  have HLM := Lib.hid hm
  clear hm
  rcases hown.2 with ⟨_, hz⟩ | ⟨g, cap, cur0, hv, hge, hg, hnc, hcap, hcs, htk⟩
  · obtain rfl : m = 0 := hz
    clear hown hel hdis
    go_enter Try.func27, Try.ntmps27
    go_wp2
    go_rounds 1
    go_ret
    exact ⟨ret_int (by simp [offS]), fun k hk => by have := HLM.out; omega, Below.refl _ _⟩
  · simp only [Value.slice.injEq] at hv
    obtain ⟨rfl, -, rfl⟩ := hv
    have HF : Hid (∀ k, k < m → ∃ B d, hs k = .slice B (nthB ss k).length d) := fun k hk => own_slice (hel k hk)
    have hcur : ∀ j, j < m → cur0[j * 2 + 1]? = some (hs j) := fun j hj => by
      have h1 := (hdS_get n hs m j hj).2
      rwa [← htk, List.getElem?_take_of_lt (by omega), Array.getElem?_toList] at h1
    have HLT : Hid (∀ k, k < m → ∀ b, (hs k).ownBlock = some b → base ≤ b ∧ b < w.heap.size) := fun k hk b e => (hel k hk).lt b e
    have HUG : Hid (∀ k, k < m → ∀ b, (hs k).ownBlock = some b → g ≠ b) := fun k hk b e e2 => own_apart hown (hel k hk) (by decide) b e (by rw [e2]; rfl)
    have HEL := Lib.hid hel; have HDIS := Lib.hid hdis
    have HMO : Hid (∀ k, k ≤ m → offS ss k ≤ 100000000) := fun k hk => Nat.le_trans (offS_mono ss hk) ho
    have HST : Hid (∀ k, offS ss (k + 1) = offS ss k + 1 + (nthB ss k).length * 3) := fun k => rfl
    have HR0 : Hid (Row w g 30 cur0) := hg
    have HG0 : Hid (base ≤ g ∧ g < w.heap.size) := ⟨hge, HR0.out.lt⟩
    have HST0 : Hid (m * 2 ≤ cur0.size ∧ ∀ j, j < m → cur0[j * 2 + 1]? = some (hs j)) := ⟨by rw [hcs]; exact Nat.mul_le_mul_right 2 hnc, hcur⟩
    clear hown hel hdis hcur hg hcs htk hge hcap hnc
    go_enter Try.func27, Try.ntmps27
    go_wp2
    go_loopw [1, 5] (fun s i wr => ∃ k : Nat, k ≤ m ∧ i = .int .i64 k ∧ s = .int .i64 (1 + (offS ss k : Nat)) ∧ Hid (Below base w wr ∧ (∀ b, b < w.heap.size → g ≠ b → (∀ j, j < k → (hs j).ownBlock ≠ some b) → wr.heap[b]? = w.heap[b]?) ∧ (∃ cur, Row wr g 30 cur ∧ m * 2 ≤ cur.size ∧ (∀ j, j < m → cur[j * 2 + 1]? = some (hs j)) ∧ ∀ j, j < k → cur[j * 2]? = some (.int .i64 (1 + (offS ss j : Nat)))) ∧ ∀ j, j < k → ∀ B d, hs j = .slice B (nthB ss j).length d → Mk wr 80 B ((nthB ss j).length * 3) (1 + (offS ss j : Nat) + 1))) (fun _ i _ => m - (intOf i).toNat)
    case atStart => exact ⟨0, by omega, rfl, rfl, Below.refl _ _, fun _ _ _ _ => rfl, ⟨cur0, HR0.out, HST0.out.1, HST0.out.2, fun j hj => by omega⟩, fun j hj => by omega⟩
    case round =>
      obtain ⟨k, hk, rfl, rfl, HI⟩ := hrel
      by_cases hlt : k < m
      · obtain ⟨B, d, hB⟩ := HF.out k hlt
        obtain ⟨cur, hR, hcs, hat1, hat0⟩ := HI.out.2.2.1
        have p1 : wr.cell? ⟨g, k * 2 + 1, none⟩ = some (.slice B (nthB ss k).length d) := by rw [hR.cell, hat1 k hlt, hB]
        have f1 := hR.frozen (k * 2 + 1)
        obtain ⟨u0, q0⟩ := hR.cellAt (i := k * 2) (by omega)
        have f0 := hR.frozen (k * 2)
        have hgl := hR.lt
        have HB := Lib.hid hB; have HR := Lib.hid hR; have HCS := Lib.hid hcs; have HA1 := Lib.hid hat1; have HA0 := Lib.hid hat0
        have hbk : Hid (∀ b, B.map Addr.block = some b → (hs k).ownBlock = some b) := fun b e => by rw [HB.out, slice_block]; exact e
        have HGS : Hid (∀ X, wr.grownBy (wr.setCell ⟨g, k * 2, none⟩ X) (some g)) := fun X => grown_set (grown_refl _ _) _ _
        have HWR : Hid (∀ X, Wr (wr.setCell ⟨g, k * 2, none⟩ X) 80 B ((nthB ss k).length * 3)) := by
          intro X
          have h : w.ownsRow base 80 3 (hs k) (nthB ss k).length (cells3' (nthB ss k)) := HEL.out k hlt
          rw [HB.out] at h
          refine (Wr.own h).kept fun b hb => ?_
          have hb2 := hbk.out b hb
          have h1 := HI.out.2.1 b (HLT.out k hlt b hb2).2 (HUG.out k hlt b hb2) (fun j hj e => HDIS.out j k (by omega) hlt (by omega) b e hb2)
          have h2 := (HLT.out k hlt b hb2).2
          have h3 := HI.out.1.size
          exact ((HGS.out X).block b (by omega) (fun e => HUG.out k hlt b hb2 (by simpa using e.symm))).trans h1
        have hm1 := HMO.out k hk
        have hm2 := HMO.out (k + 1) hlt
        have HSk := HST.out k
        rw [HSk] at hm2
        have HSH := Lib.hid HSk
        clear hB hR hcs hat1 hat0 HSk
        go_wp2_with fail
        refine (markBlockS_any B (nthB ss k).length d (1 + (offS ss k : Nat) + 1) _ (HWR.out _) (by omega) (by omega) (by omega)).mono ?_
        rintro e w1 ⟨rfl, hmk, hgw⟩
        have HM := Lib.hid hmk; have HGW := Lib.hid hgw
        clear hmk hgw q0 p1 f0 f1 hgl
        go_wp2
        go_roundw
        case rel =>
          have hsz := HI.out.1.size
          have hsz2 := (HGS.out (.int .i64 (1 + (offS ss k : Nat)))).size
          have hsz3 := HGW.out.size
          have hgg := HG0.out
          refine ⟨k + 1, by omega, by go_num, by rw [HSH.out]; exact val_int (by push_cast; omega), (HI.out.1.grown (HGS.out _) (by omega) (fun b e => by simp only [Option.some.injEq] at e; omega)).grown HGW.out (by omega) (fun b e => (HLT.out k hlt b (hbk.out b e)).1), fun b hb hne hno => ?_, ⟨_, (HGW.out.block g (by omega) (fun e => HUG.out k hlt g (hbk.out g e.symm) rfl)).trans (HR.out.set _ _), by simpa using HCS.out, fun j hj => ?_, fun j hj => ?_⟩, fun j hj B' d' e => ?_⟩
          · exact ((HGW.out.block b (by omega) (fun e => hno k (by omega) (hbk.out b e.symm))).trans ((HGS.out _).block b (by omega) (fun e => hne (by simpa using e.symm)))).trans (HI.out.2.1 b hb hne fun j hj => hno j (by omega))
          · rw [Array.getElem?_setIfInBounds, if_neg (by omega)]; exact HA1.out j hj
          · rw [Array.getElem?_setIfInBounds]
            by_cases ej : k * 2 = j * 2
            · obtain rfl : j = k := by omega
              rw [if_pos rfl, if_pos (by have := HCS.out; omega)]
            · rw [if_neg ej]; exact HA0.out j (by omega)
          · by_cases ej : j = k
            · subst ej
              rw [HB.out] at e
              simp only [Value.slice.injEq] at e
              rw [← e.1]; exact HM.out
            · refine (HI.out.2.2.2 j (by omega) B' d' e).kept fun b hb => ?_
              have hb2 : (hs j).ownBlock = some b := by rw [e, slice_block]; exact hb
              have h2 := (HLT.out j (by omega) b hb2).2
              exact (HGW.out.block b (by omega) (fun e2 => HDIS.out j k (by omega) hlt ej b hb2 (hbk.out b e2.symm))).trans ((HGS.out _).block b (by omega) (fun e2 => HUG.out j (by omega) b hb2 (by simpa using e2.symm)))
        case measure => simp [intOf]; omega
      · obtain rfl : k = m := by omega
        go_wp2
        go_ret
        refine ⟨rfl, fun j hj => ?_, HI.out.1⟩
        have hj2 : j < k := by have := HLM.out; omega
        obtain ⟨B, d, hB⟩ := HF.out j hj2
        obtain ⟨cur, hR, hcs, hat1, hat0⟩ := HI.out.2.2.1
        exact ⟨g, B, d, rfl, hR.lt, by rw [hR.cell, hat0 j hj2], by rw [hR.cell, hat1 j hj2, hB], HI.out.2.2.2 j hj2 B d hB⟩

end Go.Proofs.Ytabgmjakkgalgaa

/- Bounds of CompletionsOf's result; conditions: stated in each. -/
namespace Go.Proofs.Ytabgmjakkgalgaa
open Go.RowKit

theorem LSS.grown {S : Nat → Prop} {w w' : World} {base n : Nat} {u : Value} {B : Option Addr} {ss : List (List Blk)} (h : LSS S w base n u ss) (hg : w.grownBy w' (B.map Addr.block)) (hB : ∀ k, B.map Addr.block = some k → k < base) : LSS S w' base n u ss := by
  obtain ⟨hl, hs, ho, hi, hd, hu, he⟩ := h
  have key : ∀ {x : Value} {t : TypeId} {size n : Nat} {ys : List Value}, w.ownsRow base t size x n ys → w'.ownsRow base t size x n ys := by
    intro x t size n ys hx
    refine World.ownsRow.kept hx hg ?_
    cases e : x.ownBlock with
    | none => exact .inl rfl
    | some b => right; intro e2; have := hB b e2.symm; have := (hx.lt b e).1; omega
  exact ⟨fun b hb => Nat.lt_of_lt_of_le (hl b hb) hg.size, hs, key ho, fun k hk => key (hi k hk), hd, hu, he⟩
theorem offS_le {ss : List (List Blk)} {m : Nat} (h : ∀ k, k < ss.length → (nthB ss k).length ≤ m) : ∀ j, j ≤ ss.length → offS ss j ≤ j * (1 + m * 3) := by
  intro j
  induction j with
  | zero => intro _; simp [offS]
  | succ j ih =>
    intro hj
    have h1 := ih (by omega); have h2 := h j (by omega)
    rw [offS, Nat.succ_mul]; omega
theorem cofR_len (v : Int) (xs : List Blk) : (cofR v xs).1.length ≤ 200 ∧ ∀ k, k < (cofR v xs).1.length → (nthB (cofR v xs).1 k).length ≤ 100 := by
  by_cases h : (cmpR v xs 201).2 = 0
  · by_cases k : 200 < (cmpR v xs 201).1.length
    · rw [cofR_many h k]; exact ⟨by simp, fun k hk => by simp at hk⟩
    · rw [cofR_all h k]
      obtain ⟨hs, ht, hm⟩ := cmpR_zero h
      have HS := isSysB_iff.1 hs
      have hv0 := HS.1
      obtain ⟨n, rfl⟩ := Int.eq_ofNat_of_zero_le (by omega : 0 ≤ v)
      have hm' : misN n xs ≤ 12 := hm
      rw [cmpR_yes hs ht hm] at k ⊢
      have k' : ¬ 200 < (cplL n xs 201).length := k
      have HML : ∀ M ∈ takeG [] 201 (addC n xs), M.length = misN n xs := fun M hM => add_len HS (told_nat ht) (by unfold takeG at hM; rw [List.nil_append] at hM; exact List.mem_of_mem_take hM)
      have HE : sysL xs (takeG [] 201 (addC n xs)) = cplL n xs 201 := by unfold sysL takeG cplL; simp
      show (cplL n xs 201).length ≤ 200 ∧ ∀ k, k < (cplL n xs 201).length → (nthB (cplL n xs 201) k).length ≤ 100
      refine ⟨by omega, fun j hj => ?_⟩
      rw [← HE] at hj ⊢
      have h1 : (sysL xs (takeG [] 201 (addC n xs))).length = (takeG [] 201 (addC n xs)).length := List.length_map ..
      have h2 := sysL_at xs (E := takeG [] 201 (addC n xs)) (j := j) (k := (takeG [] 201 (addC n xs)).length) (by omega) (Nat.le_refl _)
      rw [List.take_length] at h2
      rw [h2, srt_len, List.length_append]
      have h3 : nthB (takeG [] 201 (addC n xs)) j ∈ takeG [] 201 (addC n xs) := by
        unfold nthB
        have h4 : j < (takeG [] 201 (addC n xs)).length := by omega
        simp [h4]
      have := HML _ h3
      have := HS.2.1
      omega
  · rw [cofR_bad h]; exact ⟨by simp, fun k hk => by simp at hk⟩
theorem cofR_bd (v : Int) (xs : List Blk) : Hid ((cofR v xs).1.length ≤ 1000000 ∧ (∀ k, k < (cofR v xs).1.length → (nthB (cofR v xs).1 k).length ≤ 1073741824) ∧ offS (cofR v xs).1 (cofR v xs).1.length ≤ 100000000) := by
  obtain ⟨h1, h2⟩ := cofR_len v xs
  refine ⟨by omega, fun k hk => by have := h2 k hk; omega, ?_⟩
  have := offS_le h2 _ (Nat.le_refl _)
  have h3 : (cofR v xs).1.length * (1 + 100 * 3) ≤ 200 * (1 + 100 * 3) := Nat.mul_le_mul_right _ h1
  omega

end Go.Proofs.Ytabgmjakkgalgaa
