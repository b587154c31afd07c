/- Plain laws and contracts, part 8; conditions: stated in each. -/
import Derived.Deep.AppendLies
import Derived.Shelf.SlSortCmp.NoneTotal
import Derived.Test.YtabgmjakkgalgaaB1
import Derived.Test.YtabgmjakkgalgaaB2
import Derived.Test.YtabgmjakkgalgaaB3
set_option linter.unusedSimpArgs false
set_option linter.unusedVariables false
/- Contracts of the loop's table; conditions: stated in each. -/
namespace Go.Proofs.Ytabgmjakkgalgaa
open Go.RowKit
set_option maxHeartbeats 400000
set_option maxRecDepth 100000
set_option linter.unusedSimpArgs false
set_option linter.unusedVariables false

/-- the loop's rows as far as they are made: k of them, the last one k long -/
def loopX (xs : List Blk) (n k : Nat) (a : Nat) : List Int := if a = n then tabR (loopI xs n) k n else if a < k then tabR (loopI xs n) (n + 1) a else tabR (prodI xs) n a
theorem loopI_top (xs : List Blk) (n : Nat) (b : Int) : loopI xs n n b = b := by simp [loopI]
theorem row_loop (xs : List Blk) {n k : Nat} (hk : k < n) : (tabR (prodI xs) n k).set k (n : Int) ++ [(k : Int)] = tabR (loopI xs n) (n + 1) k := by
  rw [tabR_succ]
  congr 1
  · apply List.ext_getElem?
    intro i
    by_cases hi : i < n
    · by_cases e : i = k
      · subst e
        have h1 : (i : Int) ≠ n := by omega
        simp [tabR, hi, loopI, h1]
      · rw [List.getElem?_set_ne (Ne.symm e)]
        have h1 : (k : Int) ≠ n := by omega
        have h2 : (i : Int) ≠ n := by omega
        have h3 : (k : Int) ≠ i := by omega
        simp [tabR, hi, loopI, prodI, h1, h2, h3]
    · rw [List.getElem?_eq_none (by simp [tabR]; omega), List.getElem?_eq_none (by simp [tabR]; omega)]
  · have h1 : (k : Int) ≠ n := by omega
    simp [loopI, h1]

theorem Row.belowB {w w' : World} {B g : Nat} {t : TypeId} {cur : Array Value} (h : Row w g t cur) (hg : g < B) (hb : Below B w w') : Row w' g t cur := (hb.block g hg).trans h
theorem Since.below2 {w a b : World} (h : Since w a) (h' : Below (w.heap.size + 1) a b) : Below w.heap.size w b := Below.trans h (h'.mono (Nat.le_succ _))
end Go.Proofs.Ytabgmjakkgalgaa

/- Contracts of counts of triples; conditions: stated in each. -/
namespace Go.Proofs.Ytabgmjakkgalgaa
open Go.RowKit
set_option maxHeartbeats 400000
set_option maxRecDepth 100000
set_option linter.unusedSimpArgs false
set_option linter.unusedVariables false

end Go.Proofs.Ytabgmjakkgalgaa

/- Contracts of the program's counts of triples; conditions: stated in each. -/
namespace Go.Proofs.Ytabgmjakkgalgaa
open Go.RowKit
set_option maxHeartbeats 400000
set_option maxRecDepth 100000
set_option linter.unusedSimpArgs false
set_option linter.unusedVariables false

/-- the product of the loop that a grid tells -/
def loopGr (G : Nat → Int) (v a b : Int) : Int := if a = v then b else if b = v then a else if a = b then v else G (a.toNat * 15 + b.toNat)
theorem elementsNone_any (v : Int) (A : Option Addr) (c : Nat) (xs : List Blk) (w : World) (hA : Bl w A xs) (hl : xs.length ≤ 1048576) :
    Calls Try.prog 44 #[.agg #[.int .i64 v, .slice A xs.length c], .int .i64 0, .slice none 0 0] w fun e w' => e = .returned (.int .i64 (elCode v xs 0 [])) ∧ Below w.heap.size w w' :=
  elementsCode_any v A c xs 0 none 0 [] w hA hl (.inl rfl) (by simp)

theorem prodG_bd {G : Nat → Int} {n a b : Nat} (h : ∀ a b : Nat, a < n → b < n → a ≠ b → 0 ≤ G (a * 15 + b) ∧ G (a * 15 + b) < n) (ha : a < n) (hb : b < n) : 0 ≤ prodG G a b ∧ prodG G a b < n := by
  unfold prodG
  split
  · omega
  · have := h a b ha hb (by omega); simpa using this
end Go.Proofs.Ytabgmjakkgalgaa

/- Contracts for LoopProduct and TurnOf, of the reference and of the program; conditions: stated in each. -/
namespace Go.Proofs.Ytabgmjakkgalgaa
open Go.RowKit
set_option maxHeartbeats 400000
set_option maxRecDepth 100000
set_option linter.unusedSimpArgs false
set_option linter.unusedVariables false

theorem elCode_zero {v : Int} {xs : List Blk} {m : Int} {ls : List Int} (h : elCode v xs m ls = 0) : isSysB v xs = true ∧ allIn ls m ∧ fullB v xs = true := by
  unfold elCode at h
  (repeat' split at h) <;> first | exact ⟨by assumption, allInB_iff.1 (by assumption), by assumption⟩ | cases h
theorem elCode_bad {v : Int} {xs : List Blk} {m m' : Int} {ls : List Int} (h : isSysB v xs = false) : elCode v xs m ls = elCode v xs m' ls := by
  unfold elCode; rw [h]; rfl
theorem in_two {a b m : Int} (h : allIn [a, b] m) : (0 ≤ a ∧ a ≤ m) ∧ (0 ≤ b ∧ b ≤ m) := ⟨h 0 (by simp), h 1 (by simp)⟩
theorem in_one {a m : Int} (h : allIn [a] m) : 0 ≤ a ∧ a ≤ m := h 0 (by simp)
theorem grid_prod {n : Nat} {xs : List Blk} (hs : isSys n xs) {a b : Nat} (ha : a < n) (hb : b < n) : prodG (gridN xs xs.length) a b = prodI xs a b := by
  have hv := hs.1
  unfold prodG prodI
  split
  · rfl
  · exact gridN_third hs (by omega) (by omega) (by omega) (by assumption)
theorem grid_loop {n : Nat} {xs : List Blk} (hs : isSys n xs) {a b : Nat} (ha : a < n + 1) (hb : b < n + 1) : loopGr (gridN xs xs.length) n a b = loopI xs n a b := by
  have hv := hs.1
  unfold loopGr loopI
  split
  · rfl
  · split
    · rfl
    · split
      · rfl
      · exact gridN_third hs (by omega) (by omega) (by omega) (by assumption)

noncomputable def loopR (v : Int) (xs : List Blk) (a b : Int) : Int × Int := if elCode v xs v [a, b] ≠ 0 then (0, elCode v xs v [a, b]) else (loopI xs v a b, 0)
noncomputable def turnR (v : Int) (xs : List Blk) (a : Int) : List Int × Int := if elCode v xs (v - 1) [a] ≠ 0 then ([], elCode v xs (v - 1) [a]) else (tabR (prodI xs) v.toNat a.toNat, 0)
theorem turnR_bd (v : Int) (xs : List Blk) (a : Int) : (turnR v xs a).1.length ≤ 15 := by
  unfold turnR
  by_cases h : elCode v xs (v - 1) [a] = 0
  · rw [if_neg (by simpa using h)]
    have := (isSysB_iff.1 (elCode_zero h).1).1
    simp only [tabR_len]; omega
  · rw [if_pos h]; simp

end Go.Proofs.Ytabgmjakkgalgaa

/- Contracts for TurnOf, of the reference and of the program; conditions: stated in each. -/
namespace Go.Proofs.Ytabgmjakkgalgaa
open Go.RowKit
set_option maxHeartbeats 400000
set_option maxRecDepth 100000
set_option linter.unusedSimpArgs false
set_option linter.unusedVariables false

theorem turn_any (n a : Nat) (g : Nat) (G : Nat → Int) (A : Option Addr) (c l : Nat) (w : World) (hG : Gr w g G) (hn : n ≤ 15) (ha : a < n) :
    Calls Try.prog 46 #[.agg #[.int .i64 n, .slice A l c], .pointer (some ⟨g, 0, none⟩), .int .i64 a] w fun e w' => ∃ u, e = .returned u ∧ Ro w' w.heap.size u (tabR (prodG G) n a) ∧ Below w.heap.size w w' := by
  obtain ⟨ni0, hni, hni0, hni1, hni2⟩ := info_parts infoInt'
  have HG := Lib.hid (hG.below (below_alloc w (.cells #[.int .i64 n, .slice A l c] 30)))
  have HR := Lib.hid (Row.box w 30 (.int .i64 n) (.slice A l c))
  have HW := Lib.hid (below_alloc w (.cells #[.int .i64 n, .slice A l c] 30))
  clear hG
  go_enter Try.func46, Try.ntmps46
  obtain ⟨c0, c1⟩ := HR.out.c2
  go_wp2
  clear c0 c1
  generalize w.alloc _ = W at *
  go_loopw [7, 11] (fun u i wr => ∃ k : Nat, k ≤ n ∧ i = .int .i64 k ∧ Hid (Below W.heap.size W wr ∧ Ro wr W.heap.size u (tabR (prodG G) k a))) (fun _ i _ => n - (intOf i).toNat)
  case atStart => exact ⟨0, by omega, rfl, Below.refl _ _, World.ownsRow_nil _ _ _ _⟩
  case round =>
    obtain ⟨k, hk, rfl, HC⟩ := hrel
    have HN : Hid (tabR (prodG G) (k + 1) a = tabR (prodG G) k a ++ [prodG G a k]) := tabR_succ _ _ _
    have hll := tabR_len (prodG G) k a
    by_cases hlt : k < n
    · go_wp2_with fail
      refine (product_any g G a k _ (HG.out.below HC.out.1) (by omega) (by omega)).mono ?_
      rintro e w' ⟨rfl, rfl⟩
      have HB2 := Lib.hid HC.out.1
      have HO : Hid (wr.ownsRow W.heap.size 2 1 u7 (tabR (prodG G) k a).length ((tabR (prodG G) k a).map (Value.int .i64))) := HC.out.2
      have hbw_ := HB2.out.size; go_wp2_with (at_builtin; refine wpList_append_own _ rfl _ _ 36 rfl (W).heap.size 2 ni0 (.int .i64 0) 1 8 Try.underlying36 hni hni0 hni1 hni2 rfl (by decide) _ _ _ rfl (HO.out.alloc _) ⟨(wr).heap.size, 0, none⟩ 1 1 [.int .i64 (prodG G a k)] rfl rfl (cells_new _ _ _) (by simp [Value.oneCell']) (by unfold maxLen; omega) (by omega) (by simp; omega) ?_; intro v2 w2 hown2 hg2 _); have HO2 := Lib.hid hown2; have HB3 : Hid (Below (W).heap.size (W) w2) := (HB2.out.alloc HB2.out.size _).grown hg2 (by simp; omega) (own_block HO.out); clear hown2 hg2 hbw_
      go_wp2
      go_roundw
      case rel => exact ⟨k + 1, by omega, by go_num, HB3.out, by rw [HN.out]; have h2 := HO2.out; unfold Ro; simpa using h2⟩
      case measure => simp [intOf]; omega
    · obtain rfl : k = n := by omega
      go_wp2
      go_ret
      exact ⟨u7, rfl, own_base HC.out.2 HW.out.size, below_up HW.out HC.out.1⟩

end Go.Proofs.Ytabgmjakkgalgaa

/- Plain laws: numbers in order, and the lengths of the ways of a map; conditions: stated in each. -/
namespace Go.Proofs.Ytabgmjakkgalgaa
set_option linter.unusedSimpArgs false
set_option linter.unusedVariables false

def leI (a b : Int) : Bool := decide (a ≤ b)
def geI (a b : Int) : Bool := decide (b ≤ a)
/-- numbers in order -/
def srtI (xs : List Int) : List Int := xs.mergeSort leI
/-- numbers, greatest first -/
def dscI (xs : List Int) : List Int := xs.mergeSort geI
theorem srtI_perm (xs : List Int) : (srtI xs).Perm xs := List.mergeSort_perm _ _
theorem srtI_sorted (xs : List Int) : (srtI xs).Pairwise (fun a b => leI a b = true) :=
  List.pairwise_mergeSort (le := leI) (fun a b c h1 h2 => by unfold leI at *; simp only [decide_eq_true_eq] at *; omega) (fun a b => by unfold leI; simp only [Bool.or_eq_true, decide_eq_true_eq]; omega) xs
theorem dscI_perm (xs : List Int) : (dscI xs).Perm xs := List.mergeSort_perm _ _
theorem dscI_sorted (xs : List Int) : (dscI xs).Pairwise (fun a b => geI a b = true) :=
  List.pairwise_mergeSort (le := geI) (fun a b c h1 h2 => by unfold geI at *; simp only [decide_eq_true_eq] at *; omega) (fun a b => by unfold geI; simp only [Bool.or_eq_true, decide_eq_true_eq]; omega) xs
theorem srtI_uniq {l xs : List Int} (hp : l.Perm xs) (hs : l.Pairwise (fun a b => leI a b = true)) : srtI xs = l :=
  List.Perm.eq_of_pairwise (le := fun a b => leI a b = true) (fun a b _ _ h1 h2 => by unfold leI at *; simp only [decide_eq_true_eq] at *; omega) (srtI_sorted xs) hs ((srtI_perm xs).trans hp.symm)
theorem dscI_uniq {l xs : List Int} (hp : l.Perm xs) (hs : l.Pairwise (fun a b => geI a b = true)) : dscI xs = l :=
  List.Perm.eq_of_pairwise (le := fun a b => geI a b = true) (fun a b _ _ h1 h2 => by unfold geI at *; simp only [decide_eq_true_eq] at *; omega) (dscI_sorted xs) hs ((dscI_perm xs).trans hp.symm)
theorem srtI_len (xs : List Int) : (srtI xs).length = xs.length := (srtI_perm xs).length_eq
theorem dscI_len (xs : List Int) : (dscI xs).length = xs.length := (dscI_perm xs).length_eq
theorem srtI_app (ys : List Int) (b : Int) : srtI (srtI ys ++ [b]) = srtI (ys ++ [b]) :=
  srtI_uniq ((srtI_perm _).trans ((srtI_perm ys).append_right [b]).symm) (srtI_sorted _)
theorem srtI_self {xs : List Int} (h : xs.Pairwise (fun a b => leI a b = true)) : srtI xs = xs := srtI_uniq (List.Perm.refl _) h
/-- what is sorted with other signs -/
theorem dsc_neg (xs : List Int) : (srtI (xs.map (fun x => -x))).map (fun x => -x) = dscI xs := by
  symm
  refine dscI_uniq ?_ ?_
  · have h := (srtI_perm (xs.map (fun x => -x))).map (fun x => -x)
    rw [List.map_map] at h
    have e : ((fun x : Int => -x) ∘ fun x => -x) = id := by funext x; simp
    rw [e, List.map_id] at h
    exact h
  · rw [List.pairwise_map]
    exact (srtI_sorted _).imp fun {a b} h => by unfold leI at h; unfold geI; simp only [decide_eq_true_eq] at *; omega
theorem nthI_get {xs : List Int} {k : Nat} (h : k < xs.length) : nthI xs k = xs[k] := by simp [nthI, h]
theorem takeI_next {xs : List Int} {k : Nat} (h : k < xs.length) : xs.take k ++ [nthI xs k] = xs.take (k + 1) := by
  rw [List.take_succ_eq_append_getElem h, nthI_get h]
/-- a number put in at its place -/
theorem insI_srt {out : List Int} {b : Int} {a : Nat} (hs : out.Pairwise (fun a b => leI a b = true)) (ha : a ≤ out.length) (h1 : ∀ j, a ≤ j → j < out.length → b < nthI out j) (h2 : a = 0 ∨ nthI out (a - 1) ≤ b) :
    out.take a ++ [b] ++ out.drop a = srtI (out ++ [b]) := by
  symm
  refine srtI_uniq ?_ ?_
  · have : (out.take a ++ [b] ++ out.drop a).Perm (out.take a ++ out.drop a ++ [b]) := by
      rw [List.append_assoc, List.append_assoc]
      exact (List.perm_append_comm).append_left _
    rwa [List.take_append_drop] at this
  · have hall : ∀ x, x ∈ out.take a → x ≤ b := by
      intro x hx
      rcases h2 with rfl | h2
      · simp at hx
      · obtain ⟨i, hi, e⟩ := List.getElem_of_mem hx
        rw [List.length_take] at hi
        rw [List.getElem_take] at e
        by_cases e2 : i = a - 1
        · rw [← e]; subst e2; rw [nthI_get (by omega)] at h2; exact h2
        · have := List.pairwise_iff_getElem.1 hs i (a - 1) (by omega) (by omega) (by omega)
          unfold leI at this
          simp only [decide_eq_true_eq] at this
          rw [nthI_get (by omega)] at h2
          rw [← e]; omega
    have hdr : ∀ x, x ∈ out.drop a → b ≤ x := by
      intro x hx
      obtain ⟨i, hi, e⟩ := List.getElem_of_mem hx
      rw [List.length_drop] at hi
      rw [List.getElem_drop] at e
      have := h1 (a + i) (by omega) (by omega)
      rw [nthI_get (by omega), e] at this
      omega
    rw [List.append_assoc, List.pairwise_append]
    refine ⟨hs.sublist (List.take_sublist _ _), ?_, ?_⟩
    · rw [List.singleton_append, List.pairwise_cons]
      exact ⟨fun x hx => by unfold leI; simpa using hdr x hx, hs.sublist (List.drop_sublist _ _)⟩
    · intro x hx y hy
      rw [List.singleton_append, List.mem_cons] at hy
      unfold leI
      rcases hy with rfl | hy
      · simpa using hall x hx
      · have h1 := hall x hx; have h2 := hdr y hy; simp only [decide_eq_true_eq]; omega
theorem midI_len {S : List Int} {j : Int} {t : Nat} : (S.take t ++ [j] ++ S.drop t).length = S.length + 1 := by
  simp only [List.length_append, List.length_take, List.length_drop, List.length_singleton]; omega
theorem midI_nth {S : List Int} {j : Int} {t i : Nat} (ht : t ≤ S.length) (hi : i < t) : nthI (S.take t ++ [j] ++ S.drop t) i = nthI S i := by
  unfold nthI
  rw [List.append_assoc, List.getD_eq_getElem?_getD, List.getElem?_append_left (by rw [List.length_take]; omega), List.getElem?_take_of_lt hi, List.getD_eq_getElem?_getD]
theorem midI_end {S : List Int} {j b : Int} {t : Nat} (ht : t ≤ S.length) : (S.take t ++ [j] ++ S.drop t).set t b = S.take t ++ [b] ++ S.drop t := by
  have hl : (S.take t).length = t := by rw [List.length_take]; omega
  have key : ∀ (A B : List Int), (A ++ [j] ++ B).set A.length b = A ++ [b] ++ B := by
    intro A B
    induction A with
    | nil => rfl
    | cons a A ih => simp at ih ⊢
  have := key (S.take t) (S.drop t)
  rwa [hl] at this
theorem midI_back {S : List Int} {j : Int} {t : Nat} (ht : t ≤ S.length) (h0 : 0 < t) : (S.take t ++ [j] ++ S.drop t).set t (nthI S (t - 1)) = S.take (t - 1) ++ [nthI S (t - 1)] ++ S.drop (t - 1) := by
  rw [midI_end ht]
  have e1 : S.take (t - 1) ++ [nthI S (t - 1)] = S.take t := by
    have := takeI_next (xs := S) (k := t - 1) (by omega)
    rwa [(by omega : t - 1 + 1 = t)] at this
  have e2 : S.drop (t - 1) = nthI S (t - 1) :: S.drop t := by
    rw [nthI_get (by omega), List.drop_eq_getElem_cons (by omega), (by omega : t - 1 + 1 = t)]
  rw [e1, e2]; simp

/-- one way of a map, till it comes back -/
def turnF (f : Nat → Nat) : Nat → (Nat → Bool) → Nat → Nat → (Nat → Bool) × Nat
  | 0, s, _, c => (s, c)
  | k + 1, s, q, c => if s q = true then (s, c) else turnF f k (updA s q true) (f q) (c + 1)
theorem turnF_done {f : Nat → Nat} {k : Nat} {s : Nat → Bool} {q c : Nat} (h : s q = true) : turnF f k s q c = (s, c) := by
  cases k with
  | zero => rfl
  | succ k => rw [turnF, if_pos h]
theorem turnF_next {f : Nat → Nat} {k : Nat} {s : Nat → Bool} {q c : Nat} (h : s q = false) : turnF f (k + 1) s q c = turnF f k (updA s q true) (f q) (c + 1) := by
  rw [turnF, if_neg (by simp [h])]
theorem turnF_le (f : Nat → Nat) : ∀ k s q c, c ≤ (turnF f k s q c).2 ∧ (turnF f k s q c).2 ≤ c + k := by
  intro k
  induction k with
  | zero => intro s q c; exact ⟨Nat.le_refl _, Nat.le_refl _⟩
  | succ k ih =>
    intro s q c
    rw [turnF]
    split
    · exact ⟨Nat.le_refl _, by show c ≤ c + (k + 1); omega⟩
    · have := ih (updA s q true) (f q) (c + 1)
      omega
/-- how many are not yet met -/
def unS (s : Nat → Bool) (n : Nat) : Nat := cntF (fun i => !s i) n
theorem unS_le (s : Nat → Bool) (n : Nat) : unS s n ≤ n := cntF_le _ _
theorem unS_put {s : Nat → Bool} {n q : Nat} (hq : q < n) (h : s q = false) : unS s n = unS (updA s q true) n + 1 := by
  unfold unS
  have h1 := cntF_eq q n hq
  have h2 := cntF_or (f := fun i => !(updA s q true i)) (g := fun i => decide (i = q)) (h := fun i => !s i) n (fun j _ => by
    unfold updA
    by_cases e : j = q
    · subst e; simp [h]
    · simp [e])
  omega
/-- the lengths of the ways from the first points -/
def cycS (f : Nat → Nat) (n : Nat) : Nat → (Nat → Bool) × List Int
  | 0 => (fun _ => false, [])
  | p + 1 => ((turnF f n (cycS f n p).1 p 0).1, if 0 < (turnF f n (cycS f n p).1 p 0).2 then (cycS f n p).2 ++ [((turnF f n (cycS f n p).1 p 0).2 : Int)] else (cycS f n p).2)
theorem cycS_len (f : Nat → Nat) (n : Nat) : ∀ p, (cycS f n p).2.length ≤ p := by
  intro p
  induction p with
  | zero => simp [cycS]
  | succ p ih =>
    rw [cycS]
    split
    · show ((cycS f n p).2 ++ [_]).length ≤ p + 1
      rw [List.length_append, List.length_singleton]; omega
    · show (cycS f n p).2.length ≤ p + 1
      omega
theorem cycS_bd (f : Nat → Nat) (n : Nat) : ∀ p, ∀ x ∈ (cycS f n p).2, 0 < x ∧ x ≤ n := by
  intro p
  induction p with
  | zero => simp [cycS]
  | succ p ih =>
    intro x hx
    rw [cycS] at hx
    have h := turnF_le f n (cycS f n p).1 p 0
    by_cases e : 0 < (turnF f n (cycS f n p).1 p 0).2
    · rw [if_pos e] at hx
      rcases List.mem_append.1 hx with h2 | h2
      · exact ih x h2
      · simp at h2; omega
    · rw [if_neg e] at hx; exact ih x hx

end Go.Proofs.Ytabgmjakkgalgaa

/- The library's sort of numbers by the program's order: laid, and the program's lists of numbers, greatest first; conditions: stated in each. -/
namespace Go.Proofs.Ytabgmjakkgalgaa
open Go.Shelf Go.RowKit Go.Sort
set_option maxHeartbeats 1000000
set_option maxRecDepth 100000
set_option linter.unusedSimpArgs false
set_option linter.unusedVariables false

def Try.sortI_ren : Go.Shelf.Ren := ⟨fun | 6 => 47 | 15 => 83 | 14 => 82 | 28 => 113 | 29 => 114 | 20 => 105 | 21 => 106 | 22 => 107 | 23 => 108 | 24 => 109 | 25 => 110 | 26 => 111 | 27 => 112 | 46 => 121 | 47 => 122 | 48 => 123 | 49 => 124 | 50 => 125 | 57 => 127 | n => n, fun | 22 => 36 | 24 => 2 | 25 => 74 | 3 => 3 | 39 => 107 | 0 => 0 | 53 => 129 | 55 => 52 | 4 => 4 | 46 => 122 | 45 => 121 | 50 => 126 | 5 => 5 | 9 => 9 | 66 => 139 | 70 => 143 | 76 => 146 | 77 => 147 | n => n, fun | n => n⟩
theorem Try.sortI : Go.Proofs.SlLaysF.n6 Try.prog Try.sortI_ren := {
  mixed := by kernel_rfl
  f6 := ⟨Try.f47.name, by decide, Try.func47.trans (congrArg some (by kernel_rfl))⟩
  f14 := ⟨Try.f82.name, by decide, Try.func82.trans (congrArg some (by kernel_rfl))⟩
  f15 := Try.func83.trans (congrArg some (by kernel_rfl))
  f20 := ⟨Try.f105.name, by decide, Try.func105.trans (congrArg some (by kernel_rfl))⟩
  f21 := ⟨Try.f106.name, by decide, Try.func106.trans (congrArg some (by kernel_rfl))⟩
  f22 := ⟨Try.f107.name, by decide, Try.func107.trans (congrArg some (by kernel_rfl))⟩
  f23 := ⟨Try.f108.name, by decide, Try.func108.trans (congrArg some (by kernel_rfl))⟩
  f24 := ⟨Try.f109.name, by decide, Try.func109.trans (congrArg some (by kernel_rfl))⟩
  f25 := ⟨Try.f110.name, by decide, Try.func110.trans (congrArg some (by kernel_rfl))⟩
  f26 := ⟨Try.f111.name, by decide, Try.func111.trans (congrArg some (by kernel_rfl))⟩
  f27 := ⟨Try.f112.name, by decide, Try.func112.trans (congrArg some (by kernel_rfl))⟩
  f28 := Try.func113.trans (congrArg some (by kernel_rfl))
  f29 := Try.func114.trans (congrArg some (by kernel_rfl))
  f46 := ⟨Try.f121.name, by decide, Try.func121.trans (congrArg some (by kernel_rfl))⟩
  f47 := Try.func122.trans (congrArg some (by kernel_rfl))
  f48 := Try.func123.trans (congrArg some (by kernel_rfl))
  f49 := ⟨Try.f124.name, by decide, Try.func124.trans (congrArg some (by kernel_rfl))⟩
  f50 := ⟨Try.f125.name, by decide, Try.func125.trans (congrArg some (by kernel_rfl))⟩
  f57 := ⟨Try.f127.name, by decide, Try.func127.trans (congrArg some (by kernel_rfl))⟩
  t0 := Try.underlying0
  a0 := Try.isAgg0
  z0 := Try.sizeOf0
  v0 := Try.zeroValue0
  t3 := Try.underlying3
  a3 := Try.isAgg3
  z3 := Try.sizeOf3
  v3 := Try.zeroValue3
  t4 := Try.underlying4
  a4 := Try.isAgg4
  z4 := Try.sizeOf4
  v4 := Try.zeroValue4
  t5 := Try.underlying5
  a5 := Try.isAgg5
  z5 := Try.sizeOf5
  v5 := Try.zeroValue5
  t9 := Try.underlying9
  a9 := Try.isAgg9
  z9 := Try.sizeOf9
  v9 := Try.zeroValue9
  t22 := Try.underlying36
  a22 := Try.isAgg36
  z22 := Try.sizeOf36
  v22 := Try.zeroValue36
  a24 := Try.isAgg2
  z24 := Try.sizeOf2
  t25 := Try.underlying74
  a25 := Try.isAgg74
  z25 := Try.sizeOf74
  v25 := Try.zeroValue74
  t39 := Try.underlying107
  a39 := Try.isAgg107
  z39 := Try.sizeOf107
  v39 := Try.zeroValue107
  t45 := Try.underlying121
  a45 := Try.isAgg121
  z45 := Try.sizeOf121
  v45 := Try.zeroValue121
  t46 := Try.underlying122
  a46 := Try.isAgg122
  z46 := Try.sizeOf122
  v46 := Try.zeroValue122
  t50 := Try.underlying126
  a50 := Try.isAgg126
  z50 := Try.sizeOf126
  v50 := Try.zeroValue126
  t53 := Try.underlying129
  a53 := Try.isAgg129
  z53 := Try.sizeOf129
  v53 := Try.zeroValue129
  t55 := Try.underlying52
  a55 := Try.isAgg52
  z55 := Try.sizeOf52
  v55 := Try.zeroValue52
  t66 := Try.underlying139
  a66 := Try.isAgg139
  z66 := Try.sizeOf139
  v66 := Try.zeroValue139
  t70 := Try.underlying143
  a70 := Try.isAgg143
  z70 := Try.sizeOf143
  v70 := Try.zeroValue143
  t76 := Try.underlying146
  a76 := Try.isAgg146
  z76 := Try.sizeOf146
  v76 := Try.zeroValue146
  t77 := Try.underlying147
  a77 := Try.isAgg147
  z77 := Try.sizeOf147
  v77 := Try.zeroValue147 }

def encI (x : Int) : Value := .int .i64 x
def cfD (m n : Int) : Int := cmpI n m
theorem ltI_is (x y : Int) : ltOf cfD x y = decide (y < x) := by
  unfold ltOf cfD cmpI
  rw [Bool.eq_iff_iff]
  simp only [decide_eq_true_eq]
  (repeat' split) <;> omega
theorem swoI : Go.Sort.SWO (ltOf cfD) where
  irrefl x := by rw [ltI_is]; simp
  trans x y z h1 h2 := by rw [ltI_is] at *; simp only [decide_eq_true_eq] at *; omega
  ntrans x y z h1 h2 := by rw [ltI_is] at *; simp only [decide_eq_false_iff_not] at *; omega
theorem compareTurns_any (a b : Int) (w : World) :
    Calls Try.prog 48 #[.int .i64 a, .int .i64 b] w fun e w' => e = .returned (.int .i64 (cfD a b)) ∧ w = w' := by
  go_enter Try.func48, Try.ntmps48
  go_wp2_with (go_at_call 49; refine (cmpCompare_any _ _ _).mono ?_; rintro e w' ⟨rfl, rfl⟩)
  go_ret
  exact ⟨rfl, rfl⟩
theorem holdsI_of {w : World} {g cap : Nat} {xs : List Int} {cur : Array Value} (hg : w.heap[g]? = some (.cells cur 2 (0, 0))) (htk : cur.toList.take (xs.length * 1) = xs.map (Value.int .i64)) : Holds encI w g 0 xs.toArray := by
  intro j hj
  have hj2 : j < xs.length := by simpa using hj
  refine ⟨?_, Row.frozen (w := w) (g := g) (t := 2) (cur := cur) hg _⟩
  rw [Nat.zero_add, Row.cell (w := w) (g := g) (t := 2) (cur := cur) hg]
  have h1 : (xs.map (Value.int .i64))[j]? = some (encI xs.toArray[j]!) := by
    rw [getElem!_pos xs.toArray j hj]; simp [hj2, encI]
  rw [← htk, List.getElem?_take_of_lt (by omega), Array.getElem?_toList] at h1
  exact h1
theorem putI_own {w : World} {base g cap n m : Nat} {ys : List Int} {cur : Array Value} {os : Array Obj} (hb : base ≤ g) (hg : w.heap[g]? = some (.cells cur 2 (0, 0))) (hnc : n ≤ cap) (hcm : cap ≤ maxLen) (hcs : cur.size = cap * 1) (hn : ys.length = n) :
    Ro (sortWorld encI w g 0 m ys.toArray os) base (.slice (some ⟨g, 0, none⟩) n cap) ys ∧ w.grownBy (sortWorld encI w g 0 m ys.toArray os) (some g) := by
  have hlt : g < w.heap.size := Row.lt (w := w) (t := 2) (cur := cur) hg
  have hheap : (sortWorld encI w g 0 m ys.toArray os).heap = w.heap.modify g (onCells (putCells encI 0 ys.toArray)) ++ os := rfl
  have hat : ∀ k, k < w.heap.size → (sortWorld encI w g 0 m ys.toArray os).heap[k]? = (w.heap.modify g (onCells (putCells encI 0 ys.toArray)))[k]? := by
    intro k hk
    rw [hheap, Array.getElem?_append_left (by simpa using hk)]
  refine ⟨⟨by simp, .inr ⟨g, cap, putCells encI 0 ys.toArray cur, by rw [hn], hb, ?_, by omega, hcm, by simp [putCells, hcs], ?_⟩⟩, ?_⟩
  · rw [hat g hlt, Array.getElem?_modify, if_pos rfl, hg]; rfl
  · apply List.ext_getElem?
    intro j
    by_cases hj : j < ys.length
    · rw [List.getElem?_take_of_lt (by omega), Array.getElem?_toList]
      have hjs : j < cur.size := by omega
      have h1 : (0 ≤ j ∧ j < 0 + ys.toArray.size) := ⟨Nat.zero_le _, by simpa using hj⟩
      simp only [putCells, Array.getElem?_mapIdx, Array.getElem?_eq_getElem hjs, Option.map_some, if_pos h1, Nat.sub_zero]
      have h2 : ys.toArray[j]! = ys[j] := by rw [getElem!_pos ys.toArray j (by simpa using hj)]; simp
      rw [h2]
      simp [encI, hj]
    · rw [List.getElem?_eq_none (by rw [List.length_take]; omega), List.getElem?_eq_none (by simp; omega)]
  · refine ⟨rfl, rfl, rfl, ?_, fun k hk hne => ?_⟩
    · rw [hheap]; simp
    · rw [hat k hk, Array.getElem?_modify, if_neg (fun e => hne (by rw [e]))]

theorem sortTurns_any (u : Value) (base : Nat) (xs : List Int) (w : World) (hO : Ro w base u xs) (hl : xs.length ≤ 1048576) :
    Calls Try.prog 47 #[u, .func (.func 48) #[] #[]] w fun e w' => e = .returned (.tuple #[]) ∧ Ro w' base u (dscI xs) ∧ w.grownBy w' u.ownBlock := by
  by_cases h0 : xs = []
  · subst h0
    obtain ⟨A, c, rfl⟩ := own_slice hO
    have h := AnyF.slices_SortFunc_none (P := Try.prog) (ρ := Try.sortI_ren) { Try.sortI with } A c (.func (.func 48) #[] #[]) w
    change Calls Try.prog 47 _ _ _ at h
    refine h.mono ?_
    rintro e w' ⟨rfl, rfl⟩
    refine ⟨rfl, ?_, grown_refl _ _⟩
    have : dscI [] = [] := dscI_uniq (List.Perm.refl _) List.Pairwise.nil
    rw [this]; exact hO
  · obtain ⟨hcl, hr⟩ := hO
    rcases hr with ⟨_, hn⟩ | ⟨g, cap, cur, hv, hge, hg, hnc, hcm, hcs, htk⟩
    · exact absurd (List.eq_nil_of_length_eq_zero hn) h0
    · subst hv
      have eg : ∀ args w, (callFunc 48 args).run Try.prog w = .ok (.enter 48 args) w := fun args w => by kernel_rfl
      have hH := holdsI_of (cap := cap) hg htk
      have h := Any.slices_SortFunc_total Try.sortI encI (fun _ => rfl) cfD swoI 48 #[] g 0 cap xs.toArray w eg
        (fun m os dk _ x y => (compareTurns_any x y _).mono fun e w' ⟨he, hw⟩ => ⟨he, 0, #[], by rw [← hw, Go.Sort.grow_empty]; rfl⟩) hH (Row.lt (w := w) (t := 2) (cur := cur) hg) (by simp; omega) (fun x y h1 h2 => by rw [ltI_is] at h1 h2; simp only [decide_eq_false_iff_not] at h1 h2; omega)
      change Calls Try.prog 47 _ _ _ at h
      have hle : (fun x y => !(ltOf cfD) y x) = geI := by
        funext x y; rw [ltI_is]; unfold geI
        rw [Bool.eq_iff_iff]; simp
      rw [hle] at h
      have hsz : xs.toArray.size = xs.length := by simp
      rw [hsz] at h
      refine h.mono ?_
      rintro e w' ⟨rfl, m, os, rfl⟩
      obtain ⟨h1, h2⟩ := putI_own (w := w) (base := base) (g := g) (cap := cap) (n := xs.length) (m := m) (ys := dscI xs) (cur := cur) (os := os) hge hg hnc hcm hcs (dscI_len xs)
      refine ⟨rfl, ?_, h2⟩
      have h3 := h1
      unfold Ro at h3 ⊢
      rw [dscI_len] at h3 ⊢
      exact h3
end Go.Proofs.Ytabgmjakkgalgaa

/- The contract of the reference's list in order; conditions: stated in it. -/
namespace Go.Proofs.Ytabgmjakkgalgaa
open Go.RowKit
set_option maxHeartbeats 1000000
set_option maxRecDepth 100000
set_option linter.unusedSimpArgs false
set_option linter.unusedVariables false

theorem Ro.set {w : World} {base g n c k : Nat} {xs : List Int} (h : Ro w base (.slice (some ⟨g, 0, none⟩) n c) xs) (b : Int) :
    Ro (w.setCell ⟨g, k, none⟩ (.int .i64 b)) base (.slice (some ⟨g, 0, none⟩) n c) (xs.set k b) := by
  obtain ⟨_, _, e⟩ := own_slice h
  simp only [Value.slice.injEq] at e
  obtain ⟨_, rfl, _⟩ := e
  have := World.ownsRow.stored h k (.int .i64 b)
  unfold Ro
  rw [List.map_set, List.length_set]
  exact this.1
theorem Ro.frozen {w : World} {base g n c : Nat} {xs : List Int} (h : Ro w base (.slice (some ⟨g, 0, none⟩) n c) xs) (i : Nat) : w.frozen? ⟨g, i, none⟩ = false := by
  obtain ⟨_, _, e⟩ := own_slice h
  simp only [Value.slice.injEq] at e
  obtain ⟨_, rfl, _⟩ := e
  exact World.ownsRow.frozenAt h i
theorem Ro.at_ {w : World} {base g n c k : Nat} {xs : List Int} (h : Ro w base (.slice (some ⟨g, 0, none⟩) n c) xs) (hk : k < xs.length) : w.cell? ⟨g, k, none⟩ = some (.int .i64 (nthI xs k)) ∧ g < w.heap.size ∧ base ≤ g := by
  obtain ⟨g', c', e, h1, h2, h3⟩ := Ro.form h (by omega)
  simp only [Value.slice.injEq, Option.some.injEq, Addr.mk.injEq] at e
  obtain ⟨⟨rfl, -, -⟩, -, -⟩ := e
  exact ⟨h3 k hk, h2, h1⟩
theorem Ro.snoc {w : World} {base : Nat} {v : Value} {xs : List Int} {b : Int} (h : w.ownsRow base 2 1 v (xs.length + 1) (xs.map (Value.int .i64) ++ [.int .i64 b])) : Ro w base v (xs ++ [b]) := by
  unfold Ro; simpa using h
/-- the list of the numbers in order -/
theorem l03Asc_any (A : Option Addr) (c : Nat) (xs : List Int) (w : World) (hA : Il w A xs) (hl : xs.length ≤ 1048576) :
    Calls Try.prog 43 #[.slice A xs.length c] w fun e w' => ∃ u, e = .returned u ∧ Ro w' w.heap.size u (srtI xs) ∧ Below w.heap.size w w' := by
  obtain ⟨ni0, hni, hni0, hni1, hni2⟩ := info_parts infoInt'
  have HE : Hid (Ro (w.alloc (.cells #[] 2)) w.heap.size (.slice (some ⟨w.heap.size, 0, none⟩) 0 0) (srtI (xs.take 0))) := by
    have : srtI (xs.take 0) = [] := srtI_self List.Pairwise.nil
    unfold Hid; rw [this]; exact own_empty _ _ _
  have HB0 := Lib.hid (below_alloc w (.cells #[] 2))
  have HA := Lib.hid hA; clear hA
  go_enter Try.func43, Try.ntmps43
  go_wp2
  go_loopw [3, 4] (fun u i wr => ∃ k : Nat, k ≤ xs.length ∧ i = .int .i64 k ∧ Hid (Below w.heap.size w wr ∧ Ro wr w.heap.size u (srtI (xs.take k)))) (fun _ i _ => xs.length - (intOf i).toNat)
  case atStart => exact ⟨0, by omega, rfl, HB0.out, HE.out⟩
  case round =>
    obtain ⟨k, hk, rfl, HC⟩ := hrel
    have HSL : Hid ((srtI (xs.take k)).length = k) := by unfold Hid; rw [srtI_len, List.length_take]; omega
    have HSS := Lib.hid (srtI_sorted (xs.take k))
    have HNX : Hid (k < xs.length → srtI (srtI (xs.take k) ++ [nthI xs k]) = srtI (xs.take (k + 1))) := fun h => by rw [srtI_app, takeI_next h]
    generalize hS : srtI (xs.take k) = S at *
    have HSEQ : Hid (k = xs.length → S = srtI xs) := fun h => by rw [← hS, h, List.take_length]
    clear hS
    by_cases hlt : k < xs.length
    · obtain ⟨b1, o1, hA1, hb1, p0⟩ := (HA.out.below HC.out.1).at_ hlt
      subst hA1
      have HSN := Lib.hid (HNX.out hlt)
      generalize hxk : nthI xs k = b at *
      have HXK := Lib.hid hxk
      clear hxk
      have hsl := HSL.out
      obtain ⟨A3, c3, hu3⟩ := own_slice HC.out.2
      subst hu3
      rw [hsl]
      have HO : Hid (wr.ownsRow w.heap.size 2 1 (.slice A3 S.length c3) S.length (S.map (Value.int .i64))) := HC.out.2
      have HBW := Lib.hid HC.out.1
      rw [hsl] at HO
      clear hsl
      have hbw_ := HBW.out.size; go_wp2_with (at_builtin; refine wpList_append_own _ rfl _ _ 36 rfl (w).heap.size 2 ni0 (.int .i64 0) 1 8 Try.underlying36 hni hni0 hni1 hni2 rfl (by decide) _ _ _ rfl (HO.out.alloc _) ⟨(wr).heap.size, 0, none⟩ 1 1 [.int .i64 (b)] rfl rfl (cells_new _ _ _) (by simp [Value.oneCell']) (by unfold maxLen; omega) (by omega) (by simp; omega) ?_; intro v2 w2 hown2 hg2 _); have HO2 := Lib.hid hown2; have HB3 : Hid (Below (w).heap.size (w) w2) := (HBW.out.alloc HBW.out.size _).grown hg2 (by simp; omega) (own_block HO.out); clear hown2 hg2 hbw_
      have HRN : Hid (Ro w2 w.heap.size v2 (S ++ [b])) := Ro.snoc (by have := HO2.out; rw [HSL.out]; exact this)
      obtain ⟨g, c2, hv2, hge, hglt, _⟩ := HRN.out.form (by simp)
      have hl1 : (S ++ [b]).length = k + 1 := by rw [List.length_append, HSL.out]; rfl
      rw [hl1] at hv2
      subst hv2
      have HGE : Hid (w.heap.size ≤ g) := hge
      have HB3' : Hid (Below w.heap.size w w2) := HB3.out
      have HST0 : Hid (Ro w2 w.heap.size (.slice (some ⟨g, 0, none⟩) (k + 1) c2) (S.take k ++ [b] ++ S.drop k)) := by
        have h1 : S.take k = S := List.take_of_length_le (by rw [HSL.out]; omega)
        have h2 : S.drop k = [] := List.drop_of_length_le (by rw [HSL.out]; omega)
        unfold Hid; rw [h1, h2, List.append_nil]; exact HRN.out
      clear HRN HO2 HB3 HO HC HBW hl1 p0
      go_loopw [5] (fun a wq => ∃ (t : Nat) (j : Int), t ≤ k ∧ a = .int .i64 t ∧ Hid (Below w.heap.size w wq ∧ Ro wq w.heap.size (.slice (some ⟨g, 0, none⟩) (k + 1) c2) (S.take t ++ [j] ++ S.drop t) ∧ ∀ i, t ≤ i → i < k → b < nthI S i)) (fun a _ => (intOf a).toNat)
      case atStart => exact ⟨k, b, by omega, rfl, HB3'.out, HST0.out, fun i h1 h2 => by omega⟩
      case round =>
        obtain ⟨t, j, ht, rfl, HD⟩ := hrel
        obtain ⟨wq, rfl⟩ : ∃ wq : World, wq = wr := ⟨_, rfl⟩
        obtain ⟨b2, o2, hA2, hb2, p0⟩ := (HA.out.below HD.out.1).at_ hlt
        simp only [Option.some.injEq, Addr.mk.injEq] at hA2
        obtain ⟨rfl, rfl, -⟩ := hA2
        rw [HXK.out] at p0
        by_cases ht0 : 0 < t
        · obtain ⟨r0, hgl, -⟩ := HD.out.2.1.at_ (k := t - 1) (by rw [midI_len, HSL.out]; omega)
          have HMN : Hid (nthI (S.take t ++ [j] ++ S.drop t) (t - 1) = nthI S (t - 1)) := midI_nth (by rw [HSL.out]; omega) (by omega)
          rw [HMN.out] at r0
          by_cases hbf : b < nthI S (t - 1)
          · have HBF := Lib.hid hbf
            go_wp2
            refine wp_region_ge_lit (by kernel_rfl) (by kernel_rfl) ?_; (repeat (go_big_quiet_step ((fail)))); refine wpQuiet_nil ?_
            rintro w3 ⟨x, rfl⟩
            clear hbf p0 r0
            have HOg := Lib.hid (HD.out.2.1.below (ge_below wq x))
            have HBg := Lib.hid (below_up HD.out.1 (ge_below wq x))
            obtain ⟨q0, hgl3, -⟩ := HOg.out.at_ (k := t) (by rw [midI_len, HSL.out]; omega)
            obtain ⟨r0, -, -⟩ := HOg.out.at_ (k := t - 1) (by rw [midI_len, HSL.out]; omega)
            rw [HMN.out] at r0
            have f0 := HOg.out.frozen t
            have HFIN : Hid (Ro ((ge wq x).setCell ⟨g, t, none⟩ (.int .i64 (nthI S (t - 1)))) w.heap.size (.slice (some ⟨g, 0, none⟩) (k + 1) c2) (S.take (t - 1) ++ [nthI S (t - 1)] ++ S.drop (t - 1))) := by
              have h := HOg.out.set (nthI S (t - 1)) (k := t)
              rw [midI_back (by rw [HSL.out]; omega) ht0] at h
              exact h
            go_wp2
            go_roundw
            case rel =>
              refine ⟨t - 1, nthI S (t - 1), by omega, by go_num, HBg.out.setCell HGE.out _, HFIN.out, fun i h1 h2 => ?_⟩
              by_cases e : i = t - 1
              · rw [e]; exact HBF.out
              · exact HD.out.2.2 i (by omega) h2
            case measure => simp [intOf]; omega
          · have HSTP : Hid (t = 0 ∨ nthI S (t - 1) ≤ b) := .inr (by omega)
            go_wp2
            refine wp_region_ge_lit (by kernel_rfl) (by kernel_rfl) ?_; (repeat (go_big_quiet_step ((fail)))); refine wpQuiet_nil ?_
            rintro w3 ⟨x, rfl⟩
            have HOg := Lib.hid (HD.out.2.1.below (ge_below wq x))
            have HBg := Lib.hid (below_up HD.out.1 (ge_below wq x))
            obtain ⟨q0, hgl3, -⟩ := HOg.out.at_ (k := t) (by rw [midI_len, HSL.out]; omega)
            have f0 := HOg.out.frozen t
            have HFIN : Hid (Ro ((ge wq x).setCell ⟨g, t, none⟩ (.int .i64 b)) w.heap.size (.slice (some ⟨g, 0, none⟩) (k + 1) c2) (srtI (xs.take (k + 1)))) := by
              have h := HOg.out.set b (k := t)
              rw [midI_end (by rw [HSL.out]; omega), insI_srt HSS.out (by rw [HSL.out]; omega) (fun i h1 h2 => HD.out.2.2 i h1 (by rw [HSL.out] at h2; exact h2)) (HSTP.out), HSN.out] at h
              exact h
            go_wp2
            go_roundw
            case rel => exact ⟨k + 1, by omega, by go_num, HBg.out.setCell HGE.out _, HFIN.out⟩
            case measure => simp [intOf]; omega
        · have HSTP : Hid (t = 0 ∨ nthI S (t - 1) ≤ b) := .inl (by omega)
          go_wp2
          refine wp_region_ge_lit (by kernel_rfl) (by kernel_rfl) ?_; (repeat (go_big_quiet_step ((fail)))); refine wpQuiet_nil ?_
          rintro w3 ⟨x, rfl⟩
          have HOg := Lib.hid (HD.out.2.1.below (ge_below wq x))
          have HBg := Lib.hid (below_up HD.out.1 (ge_below wq x))
          obtain ⟨q0, hgl3, -⟩ := HOg.out.at_ (k := t) (by rw [midI_len, HSL.out]; omega)
          have f0 := HOg.out.frozen t
          have HFIN : Hid (Ro ((ge wq x).setCell ⟨g, t, none⟩ (.int .i64 b)) w.heap.size (.slice (some ⟨g, 0, none⟩) (k + 1) c2) (srtI (xs.take (k + 1)))) := by
            have h := HOg.out.set b (k := t)
            rw [midI_end (by rw [HSL.out]; omega), insI_srt HSS.out (by rw [HSL.out]; omega) (fun i h1 h2 => HD.out.2.2 i h1 (by rw [HSL.out] at h2; exact h2)) (HSTP.out), HSN.out] at h
            exact h
          go_wp2
          go_roundw
          case rel => exact ⟨k + 1, by omega, by go_num, HBg.out.setCell HGE.out _, HFIN.out⟩
          case measure => simp [intOf]; omega
    · obtain rfl : k = xs.length := by omega
      have HSQ := Lib.hid (HSEQ.out rfl)
      clear HSEQ
      go_wp2
      go_ret
      exact ⟨_, rfl, by rw [← HSQ.out]; exact HC.out.2, HC.out.1⟩

end Go.Proofs.Ytabgmjakkgalgaa

/- The contract of the program's ProductOfTurns; conditions: stated in it. -/
namespace Go.Proofs.Ytabgmjakkgalgaa
open Go.RowKit
set_option maxHeartbeats 2000000
set_option maxRecDepth 100000
set_option linter.unusedSimpArgs false
set_option linter.unusedVariables false

/-- a point's turn, as numbers -/
def ptF (xs : List Blk) (a q : Nat) : Nat := (prodI xs (a : Int) (q : Int)).toNat
theorem ptF_is {n : Nat} {xs : List Blk} (hs : isSys n xs) (hf : fullB n xs = true) {a : Nat} (ha : a < n) : ∀ q, q < n → prodI xs (a : Int) (q : Int) = (ptF xs a q : Nat) ∧ ptF xs a q < n := by
  intro q hq
  have := prod_bd hs hf (a := a) (b := q) (by omega) (by omega)
  unfold ptF
  omega
/-- the lengths of the ways of two turns, one behind the other -/
def potL (xs : List Blk) (n a b : Nat) : List Int := (cycS (fun q => ptF xs b (ptF xs a q)) n n).2
noncomputable def potR (v : Int) (xs : List Blk) (a b : Int) : List Int × Int := if elCode v xs (v - 1) [a, b] ≠ 0 then ([], elCode v xs (v - 1) [a, b]) else (dscI (potL xs v.toNat a.toNat b.toNat), 0)
theorem potR_bd (v : Int) (xs : List Blk) (a b : Int) : (potR v xs a b).1.length ≤ 15 := by
  unfold potR
  by_cases h : elCode v xs (v - 1) [a, b] = 0
  · rw [if_neg (by simpa using h)]
    have := (isSysB_iff.1 (elCode_zero h).1).1
    show (dscI _).length ≤ 15
    rw [dscI_len]
    have := cycS_len (fun q => ptF xs b.toNat (ptF xs a.toNat q)) v.toNat v.toNat
    unfold potL; omega
  · rw [if_pos h]; simp
theorem implPot_any (v : Int) (A : Option Addr) (c : Nat) (xs : List Blk) (a b : Int) (w : World) (hA : Bl w A xs) (hl : xs.length ≤ 1048576) :
    Calls Try.prog 16 #[.agg #[.int .i64 v, .slice A xs.length c], .int .i64 a, .int .i64 b] w (LP w (potR v xs a b).1 (potR v xs a b).2) := by
  obtain ⟨ni0, hni, hni0, hni1, hni2⟩ := info_parts infoInt'
  have HN : Hid (potR v xs a b = if elCode v xs (v - 1) [a, b] ≠ 0 then ([], elCode v xs (v - 1) [a, b]) else (dscI (potL xs v.toNat a.toNat b.toNat), 0)) := rfl
  generalize potR v xs a b = R at *
  have HI := Lib.hid (Il.new1 w (.cells #[.int .i64 v, .slice A xs.length c] 30) [a, b] 2)
  have hm : wrap64 (v - 1) = v - 1 ∨ isSysB v xs = false := by
    cases hs : isSysB v xs
    · exact .inr rfl
    · have := (isSysB_iff.1 hs).1; left; go_unwrap
  have he : elCode v xs (wrap64 (v - 1)) [a, b] = elCode v xs (v - 1) [a, b] := by
    rcases hm with h | h
    · rw [h]
    · exact elCode_bad h
  have HEQ := Lib.hid he
  clear hm he
  by_cases h1 : elCode v xs (v - 1) [a, b] = 0
  · obtain ⟨hs, hin, hfu⟩ := elCode_zero h1
    have hin2 := in_two hin
    have HS := Lib.hid (isSysB_iff.1 hs)
    have hv := HS.out.1
    have H := Lib.hid h1; clear h1 hin hs
    obtain ⟨n, rfl⟩ := Int.eq_ofNat_of_zero_le (by omega : 0 ≤ v)
    obtain ⟨a, rfl⟩ := Int.eq_ofNat_of_zero_le hin2.1.1
    obtain ⟨b, rfl⟩ := Int.eq_ofNat_of_zero_le hin2.2.1
    have HTa : Hid (tabR (prodG (gridN xs xs.length)) n a = tabR (prodI xs) n a) := List.map_congr_left fun b hb => grid_prod HS.out (by omega) (List.mem_range.1 hb)
    have HTb : Hid (tabR (prodG (gridN xs xs.length)) n b = tabR (prodI xs) n b) := List.map_congr_left fun c hb => grid_prod HS.out (by omega) (List.mem_range.1 hb)
    have HPa := Lib.hid (ptF_is HS.out hfu (a := a) (by omega))
    have HPb := Lib.hid (ptF_is HS.out hfu (a := b) (by omega))
    clear hfu
    go_enter Try.func16, Try.ntmps16
    have HA := Lib.hid hA; clear hA; have HR := Lib.hid (Row.box w 30 (.int .i64 n) (.slice A xs.length c)); have HW := Lib.hid (Since.refl w)
    replace HA := Lib.hid (HA.out.below (below_alloc _ (.cells #[.int .i64 n, .slice A xs.length c] 30))); replace HW := Lib.hid (HW.out.below (below_alloc _ (.cells #[.int .i64 n, .slice A xs.length c] 30)))
    go_wp2_with fail
    replace HA := Lib.hid (HA.out.below (below_alloc _ (.cells #[.int .i64 a, .int .i64 b] 2))); replace HW := Lib.hid (HW.out.below (below_alloc _ (.cells #[.int .i64 a, .int .i64 b] 2))); replace HR := Lib.hid (HR.out.below (below_alloc _ (.cells #[.int .i64 a, .int .i64 b] 2))); (try clear c0 c1); obtain ⟨c0, c1⟩ := HR.out.c2
    refine (elementsCode_any n A c xs _ (some ⟨w.heap.size + 1, 0, none⟩) 2 [(a : Int), (b : Int)] _ HA.out hl HI.out (by simp)).mono ?_; rw [H.out]; rintro e w_ ⟨rfl, hb⟩; replace HA := Lib.hid (HA.out.below hb); replace HW := Lib.hid (HW.out.below hb); replace HR := Lib.hid (HR.out.below hb); clear hb; (try clear c0 c1); obtain ⟨c0, c1⟩ := HR.out.c2
    go_wp2_with fail
    refine (grid_any n A c xs _ HA.out hl HS.out).mono ?_
    rintro e w1 ⟨g, rfl, hle, hGr, hb⟩
    have HGr := Lib.hid hGr
    replace HA := Lib.hid (HA.out.below hb); replace HW := Lib.hid (HW.out.below hb); replace HR := Lib.hid (HR.out.below hb); clear hb; (try clear c0 c1); obtain ⟨c0, c1⟩ := HR.out.c2
    clear hGr hle
    go_wp2
    have HKEEP := Lib.hid (And.intro c0 c1)
    clear c0 c1
    go_region_held3 (fun w' => w'.cell? ⟨w.heap.size, 0, none⟩ = some (.int .i64 n) ∧ w'.cell? ⟨w.heap.size, 1, none⟩ = some (.slice A xs.length c)) (first | exact HKEEP.out) (first
      | (go_at_call 46
         fail_if_success (have T0 : HO = HO := rfl)
         refine (turn_any n a g _ A c xs.length _ (HGr.out.below (below_drew _)) (by omega) (by omega)).mono ?_
         rw [HTa.out]
         rintro e w2 ⟨u, rfl, hr, hb⟩
         have HO := Lib.hid (own_base hr HW.out.size)
         replace HGr := Lib.hid (HGr.out.below (below_up (below_drew _) hb))
         replace HW := Lib.hid (HW.out.below (below_up (below_drew _) hb))
         replace HR := Lib.hid (HR.out.below (below_up (below_drew _) hb))
         replace HKEEP := Lib.hid HR.out.c2
         clear hr hb)
      | (go_at_call 46
         refine (turn_any n b g _ A c xs.length _ HGr.out (by omega) (by omega)).mono ?_
         rw [HTb.out]
         rintro e w3 ⟨u2, rfl, hr, hb⟩
         have HO2 := Lib.hid (own_base hr HW.out.size)
         replace HO := Lib.hid (own_below HO.out hb)
         replace HW := Lib.hid (HW.out.below hb)
         replace HR := Lib.hid (HR.out.below hb)
         replace HKEEP := Lib.hid HR.out.c2
         clear hr hb))
    all_goals
      clear HKEEP
      have HO1 : Hid (Ro w3 w.heap.size u (tabR (prodI xs) n a)) := HO.out
      have HO2' : Hid (Ro w3 w.heap.size u2 (tabR (prodI xs) n b)) := HO2.out
      clear HO HO2 HGr
      obtain ⟨g1, d1, hu1, -, hgl1, hx1⟩ := HO1.out.form (by rw [tabR_len]; omega)
      obtain ⟨g2, d2, hu2, -, hgl2, hx2⟩ := HO2'.out.form (by rw [tabR_len]; omega)
      rw [tabR_len] at hu1 hu2
      subst hu1 hu2
      have HX1 : Hid (∀ q, q < n → ∀ W, Below w3.heap.size w3 W → W.cell? ⟨g1, q, none⟩ = some (.int .i64 (ptF xs a q : Nat))) := fun q hq W hb => by
        have h := hx1 q (by rw [tabR_len]; exact hq)
        rw [tabR_nth _ hq, (HPa.out q hq).1] at h
        exact (hb.cell (p := ⟨g1, q, none⟩) hgl1).trans h
      have HX2 : Hid (∀ q, q < n → ∀ W, Below w3.heap.size w3 W → W.cell? ⟨g2, q, none⟩ = some (.int .i64 (ptF xs b q : Nat))) := fun q hq W hb => by
        have h := hx2 q (by rw [tabR_len]; exact hq)
        rw [tabR_nth _ hq, (HPb.out q hq).1] at h
        exact (hb.cell (p := ⟨g2, q, none⟩) hgl2).trans h
      have HL1 := Lib.hid (fun q hq => (HPa.out q hq).2)
      have HL2 := Lib.hid (fun q hq => (HPb.out q hq).2)
      clear hx1 hx2 HO1 HO2' HTa HTb HPa HPb hgl1 hgl2
      obtain ⟨c0, c1⟩ := HR.out.c2
      have hrl := HR.out.lt
      have HV0 := Lib.hid (Vb.new w3 n (fun _ => false))
      have HBA := Lib.hid (below_alloc w3 (.cells (bcells n (fun _ => false)) 4))
      have HSZ : Hid ((w3.alloc (.cells (bcells n (fun _ => false)) 4)).heap.size = w3.heap.size + 1) := World.size_alloc _ _
      have hmk : ∀ W' : World, (Instr.makeSlice 61 (.int .i64 (n : Int)) (.int .i64 (n : Int))).run Try.prog W' = .ok (.slice (some ⟨W'.heap.size, 0, none⟩) n n) (W'.alloc (.cells (bcells n (fun _ => false)) 4)) := fun W' => by
        have := make_bools n W' (by omega) (by omega)
        simpa using this
      have HR4 := Lib.hid (HR.out.below HBA.out)
      obtain ⟨e0, e1⟩ := HR4.out.c2
      have hrl4 := HR4.out.lt
      go_wp2
      clear hmk c0 c1 e0 e1 hrl hrl4
      obtain ⟨sb, hsb⟩ : ∃ r, r = w3.heap.size := ⟨_, rfl⟩
      have HSB := Lib.hid hsb
      rw [← hsb] at HV0
      rw [← hsb]
      clear hsb
      have HF : Hid (∀ q, q < n → ptF xs b (ptF xs a q) < n) := fun q hq => HL2.out _ (HL1.out q hq)
      have HCL : Hid (∀ p, (cycS (fun q => ptF xs b (ptF xs a q)) n p).2.length ≤ p) := cycS_len _ _
      have HRES : Hid (R = (dscI (cycS (fun q => ptF xs b (ptF xs a q)) n n).2, 0)) := by unfold Hid; rw [HN.out, if_neg (by simp [H.out])]; rfl
      have HTL : Hid (∀ p, (turnF (fun q => ptF xs b (ptF xs a q)) n (cycS (fun q => ptF xs b (ptF xs a q)) n p).1 p 0).2 ≤ n) := fun p => by have := (turnF_le (fun q => ptF xs b (ptF xs a q)) n (cycS (fun q => ptF xs b (ptF xs a q)) n p).1 p 0).2; omega
      clear HN H HEQ hin2 HI
      generalize w3.alloc _ = w4 at *
      go_loopw [13, 43] (fun u i wr => ∃ p : Nat, p ≤ n ∧ i = .int .i64 p ∧ Hid (Below w3.heap.size w3 wr ∧ Vb wr sb n (cycS (fun q => ptF xs b (ptF xs a q)) n p).1 ∧ Ro wr w3.heap.size u (cycS (fun q => ptF xs b (ptF xs a q)) n p).2)) (fun _ i _ => n - (intOf i).toNat)
      case atStart => exact ⟨0, by omega, rfl, HBA.out, HV0.out, World.ownsRow_nil _ _ _ _⟩
      case round =>
        obtain ⟨p, hp, rfl, HC⟩ := hrel
        have hcl := HCL.out p
        by_cases hlt : p < n
        · have HNX : Hid (cycS (fun q => ptF xs b (ptF xs a q)) n (p + 1) = ((turnF (fun q => ptF xs b (ptF xs a q)) n (cycS (fun q => ptF xs b (ptF xs a q)) n p).1 p 0).1, if 0 < (turnF (fun q => ptF xs b (ptF xs a q)) n (cycS (fun q => ptF xs b (ptF xs a q)) n p).1 p 0).2 then (cycS (fun q => ptF xs b (ptF xs a q)) n p).2 ++ [((turnF (fun q => ptF xs b (ptF xs a q)) n (cycS (fun q => ptF xs b (ptF xs a q)) n p).1 p 0).2 : Int)] else (cycS (fun q => ptF xs b (ptF xs a q)) n p).2)) := rfl
          have htl := HTL.out p
          generalize hT : turnF (fun q => ptF xs b (ptF xs a q)) n (cycS (fun q => ptF xs b (ptF xs a q)) n p).1 p 0 = T at *
          have HT := Lib.hid hT
          clear hT
          generalize cycS (fun q => ptF xs b (ptF xs a q)) n p = C at *
          go_wp2
          obtain ⟨wo, rfl⟩ : ∃ wo : World, wo = wr := ⟨_, rfl⟩
          go_loopw [15, 16] (fun x y wr => ∃ (k q : Nat) (F : Nat → Bool), k ≤ n ∧ q < n ∧ x = .int .i64 (k : Nat) ∧ y = .int .i64 (q : Nat) ∧ unS F n ≤ n - k ∧ Hid (Below w3.heap.size w3 wr ∧ Vb wr sb n F ∧ Ro wr w3.heap.size u13 C.2 ∧ turnF (fun q => ptF xs b (ptF xs a q)) (n - k) F q k = T)) (fun x _ _ => n - (intOf x).toNat)
          case atStart => exact ⟨0, p, C.1, by omega, hlt, rfl, rfl, unS_le _ _, HC.out.1, HC.out.2.1, HC.out.2.2, HT.out⟩
          case round =>
            obtain ⟨k, q, F, hk, hq, rfl, rfl, hun, HD⟩ := hrel
            have q0 := HD.out.2.1.cell hq
            have qf := HD.out.2.1.frozen q
            have ql := HD.out.2.1.lt
            cases hF : F q
            · have HUP := Lib.hid (unS_put hq hF)
              have hkn : k < n := by have := HUP.out; omega
              have HNT : Hid (turnF (fun q => ptF xs b (ptF xs a q)) (n - (k + 1)) (updA F q true) (ptF xs b (ptF xs a q)) (k + 1) = T) := by
                have h := HD.out.2.2.2
                rw [(by omega : n - k = n - (k + 1) + 1), turnF_next hF] at h
                exact h
              rw [hF] at q0
              have HVS := Lib.hid (HD.out.2.1.set q true)
              have HBS := Lib.hid (HD.out.1.setCell (p := ⟨sb, q, none⟩) (by rw [HSB.out]; exact Nat.le_refl _) (.bool true))
              have HOS : Hid (Ro (wr.setCell ⟨sb, q, none⟩ (.bool true)) w3.heap.size u13 C.2) := World.ownsRow.kept HD.out.2.2.1 (grown_set (grown_refl _ (some sb)) _ _) (.inr (own_typed HD.out.2.2.1 ⟨_, HD.out.2.1⟩ (by decide)))
              have r1 := HX1.out q hq _ HBS.out
              have r2 := HX2.out (ptF xs a q) (HL1.out q hq) _ HBS.out
              have hpa := HL1.out q hq
              have hpb := HF.out q hq
              go_wp2
              go_roundw
              case rel => exact ⟨k + 1, _, updA F q true, by omega, hpb, by go_num, by go_num, by have := HUP.out; omega, HBS.out, HVS.out, HOS.out, HNT.out⟩
              case measure => simp [intOf]; omega
            · have HTD : Hid (T = (F, k)) := by rw [← HD.out.2.2.2]; exact turnF_done hF
              rw [hF] at q0
              by_cases hk0 : 0 < k
              · have HN2 : Hid (cycS (fun q => ptF xs b (ptF xs a q)) n (p + 1) = (F, C.2 ++ [(k : Int)])) := by unfold Hid; rw [HNX.out, HTD.out]; show (F, if 0 < k then _ else _) = _; rw [if_pos hk0]
                have HO : Hid (wr.ownsRow w3.heap.size 2 1 u13 C.2.length (C.2.map (Value.int .i64))) := HD.out.2.2.1
                have HB2 := Lib.hid HD.out.1
                have hbw_ := HB2.out.size; go_wp2_with (at_builtin; refine wpList_append_own_at _ rfl _ _ 36 rfl (w3).heap.size 2 ni0 (.int .i64 0) 1 8 Try.underlying36 hni hni0 hni1 hni2 rfl (by decide) _ _ _ rfl (HO.out.alloc _) ⟨(wr).heap.size, 0, none⟩ 1 1 [.int .i64 ((k : Int))] rfl rfl (cells_new _ _ _) (by simp [Value.oneCell']) (by unfold maxLen; omega) (by omega) (by simp; omega) ?_; intro v2 w2 hown2 hg2 _ hat2); have HO2 := Lib.hid hown2; have HB3 : Hid (Below (w3).heap.size (w3) w2) := (HB2.out.alloc HB2.out.size _).grown hg2 (by simp; omega) (own_block HO.out); have HG2 := Lib.hid hg2; have HAT2 := Lib.hid hat2; clear hown2 hg2 hat2 hbw_
                have HV2 : Hid (Vb w2 sb n F) := (HD.out.2.1.below (below_alloc _ _)).grown HG2.out (own_typed HO.out ⟨_, HD.out.2.1⟩ (by decide))
                go_wp2
                go_roundw
                case rel =>
                  refine ⟨p + 1, by omega, by go_num, HB3.out, ?_, ?_⟩
                  · rw [HN2.out]; exact HV2.out
                  · rw [HN2.out]; exact Ro.snoc HO2.out
                case measure => simp [intOf]; omega
              · have HN2 : Hid (cycS (fun q => ptF xs b (ptF xs a q)) n (p + 1) = (F, C.2)) := by unfold Hid; rw [HNX.out, HTD.out]; show (F, if 0 < k then _ else _) = _; rw [if_neg hk0]
                go_wp2
                go_roundw
                case rel =>
                  refine ⟨p + 1, by omega, by go_num, HD.out.1, ?_, ?_⟩
                  · rw [HN2.out]; exact HD.out.2.1
                  · rw [HN2.out]; exact HD.out.2.2.1
                case measure => simp [intOf]; omega
        · obtain rfl : p = n := by omega
          go_wp2_with fail
          refine (sortTurns_any _ _ _ _ HC.out.2.2 (by omega)).mono ?_
          rintro e w5 ⟨rfl, hO, hg⟩
          have HO5 := Lib.hid (own_base hO HW.out.size)
          have HB5 : Hid (Below w.heap.size w w5) := below_up HW.out (HC.out.1.grown hg HC.out.1.size (own_block HC.out.2.2))
          clear hO hg
          go_wp2
          go_ret2
          exact LP.mk HO5.out (by rw [HRES.out]) (by rw [HRES.out]) HB5.out
  · have h1' : (elCode v xs (v - 1) [a, b] != 0) = true := by simpa using h1
    have h1'' : (elCode v xs (v - 1) [a, b] == 0) = false := by simpa using h1
    have H := Lib.hid h1; clear h1
    have HA := Lib.hid hA; clear hA; have HR := Lib.hid (Row.box w 30 (.int .i64 v) (.slice A xs.length c)); have HW := Lib.hid (Since.refl w); go_enter Try.func16, Try.ntmps16; go_wp2_with fail; replace HA := Lib.hid (HA.out.below (below_alloc _ (.cells #[.int .i64 v, .slice A xs.length c] 30))); replace HW := Lib.hid (HW.out.below (below_alloc _ (.cells #[.int .i64 v, .slice A xs.length c] 30)))
    replace HA := Lib.hid (HA.out.below (below_alloc _ (.cells #[.int .i64 a, .int .i64 b] 2))); replace HW := Lib.hid (HW.out.below (below_alloc _ (.cells #[.int .i64 a, .int .i64 b] 2))); replace HR := Lib.hid (HR.out.below (below_alloc _ (.cells #[.int .i64 a, .int .i64 b] 2))); (try clear c0 c1); obtain ⟨c0, c1⟩ := HR.out.c2
    refine (elementsCode_any v A c xs _ (some ⟨w.heap.size + 1, 0, none⟩) 2 [a, b] _ HA.out hl HI.out (by simp)).mono ?_
    first | rw [HEQ.out] | skip
    rintro e w_ ⟨rfl, hb⟩
    replace HW := Lib.hid (HW.out.below hb); clear hb
    go_wp2
    go_ret2
    exact LP.nil (by rw [HN.out, if_pos H.out]) (by rw [HN.out, if_pos H.out]) HW.out

end Go.Proofs.Ytabgmjakkgalgaa

/- What the reference's loop over the ways of two turns holds; conditions: stated in each. -/
namespace Go.Proofs.Ytabgmjakkgalgaa
open Go.RowKit
set_option maxRecDepth 100000
set_option linter.unusedSimpArgs false
set_option linter.unusedVariables false

/-- the world from which the loop starts: met block gm, out block z -/
structure P0T (w_ w3 wS : World) (base gm z n : Nat) : Prop where
  zone : ∀ k, base ≤ k → k < w3.heap.size → wS.heap[k]? = w3.heap[k]?
  gma : gm < base ∨ w3.heap.size ≤ gm
  za : z < base ∨ w3.heap.size ≤ z
  vb : Vb wS gm n (fun _ => false)
  row : Row wS z 2 #[]
  bw : Below w_.heap.size w_ wS
  gl : w_.heap.size ≤ gm
  zl : w_.heap.size ≤ z
  sz : w3.heap.size ≤ wS.heap.size

theorem p0t_1 {w_ w3 : World} (base n : Nat) (hb : Below w_.heap.size w_ w3) : P0T w_ w3 ((w3.alloc (.cells (bcells n (fun _ => false)) 4)).alloc (.cells #[] 2)) base w3.heap.size (w3.heap.size + 1) n := by
  have h1 := below_alloc w3 (.cells (bcells n (fun _ => false)) 4)
  have h2 := below_alloc (w3.alloc (.cells (bcells n (fun _ => false)) 4)) (.cells #[] 2)
  have h3 := below_up h1 h2
  have hz := hb.size
  refine ⟨fun k _ hk => h3.block k hk, .inr (Nat.le_refl _), .inr (by omega), (Vb.new w3 n _).below h2, ?_, below_up hb h3, by omega, by omega, h3.size⟩
  have h := Row.new (w3.alloc (.cells (bcells n (fun _ => false)) 4)) 2 #[]
  rw [World.size_alloc] at h
  exact h
theorem p0t_2 {w_ w3 : World} (base n : Nat) (hb : Below w_.heap.size w_ w3) : P0T w_ w3 ((w3.alloc (.cells #[] 2)).alloc (.cells (bcells n (fun _ => false)) 4)) base (w3.heap.size + 1) w3.heap.size n := by
  have h1 := below_alloc w3 (.cells #[] 2)
  have h2 := below_alloc (w3.alloc (.cells #[] 2)) (.cells (bcells n (fun _ => false)) 4)
  have h3 := below_up h1 h2
  have hz := hb.size
  refine ⟨fun k _ hk => h3.block k hk, .inr (by omega), .inr (Nat.le_refl _), ?_, (Row.new w3 2 #[]).below h2, below_up hb h3, by omega, by omega, h3.size⟩
  have h := Vb.new (w3.alloc (.cells #[] 2)) n (fun _ => false)
  rw [World.size_alloc] at h
  exact h
theorem p0t_3 {w_ w3 : World} (n : Nat) (hb : Below w_.heap.size w_ w3) (h : Below (w_.alloc (.cells (bcells n (fun _ => false)) 4)).drew.heap.size (w_.alloc (.cells (bcells n (fun _ => false)) 4)).drew w3) : P0T w_ w3 (w3.alloc (.cells #[] 2)) (w_.alloc (.cells (bcells n (fun _ => false)) 4)).drew.heap.size w_.heap.size w3.heap.size n := by
  have h2 := below_alloc w3 (.cells #[] 2)
  have hz := hb.size
  have hv : Vb (w_.alloc (.cells (bcells n (fun _ => false)) 4)).drew w_.heap.size n (fun _ => false) := Vb.new w_ n _
  exact ⟨fun k _ hk => h2.block k hk, .inl (by simp), .inr (Nat.le_refl _), (hv.below h).below h2, Row.new w3 2 #[], below_up hb h2, Nat.le_refl _, hz, h2.size⟩
theorem p0t_5 {w_ w3 : World} (n : Nat) (hb : Below w_.heap.size w_ w3) (h : Below (w_.alloc (.cells #[] 2)).drew.heap.size (w_.alloc (.cells #[] 2)).drew w3) : P0T w_ w3 (w3.alloc (.cells (bcells n (fun _ => false)) 4)) (w_.alloc (.cells #[] 2)).drew.heap.size w3.heap.size w_.heap.size n := by
  have h2 := below_alloc w3 (.cells (bcells n (fun _ => false)) 4)
  have hz := hb.size
  have hv : Row (w_.alloc (.cells #[] 2)).drew w_.heap.size 2 #[] := Row.new w_ _ _
  exact ⟨fun k _ hk => h2.block k hk, .inr (Nat.le_refl _), .inl (by simp), Vb.new w3 n _, (hv.below h).below h2, below_up hb h2, hz, Nat.le_refl _, h2.size⟩
theorem p0t_4 {w_ w3 : World} (n : Nat) (hb : Below w_.heap.size w_ w3) (h : Below ((w_.alloc (.cells (bcells n (fun _ => false)) 4)).alloc (.cells #[] 2)).drew.heap.size ((w_.alloc (.cells (bcells n (fun _ => false)) 4)).alloc (.cells #[] 2)).drew w3) : P0T w_ w3 w3 ((w_.alloc (.cells (bcells n (fun _ => false)) 4)).alloc (.cells #[] 2)).drew.heap.size w_.heap.size (w_.heap.size + 1) n := by
  have h2 := below_alloc (w_.alloc (.cells (bcells n (fun _ => false)) 4)) (.cells #[] 2)
  have hv : Vb ((w_.alloc (.cells (bcells n (fun _ => false)) 4)).alloc (.cells #[] 2)).drew w_.heap.size n (fun _ => false) := (Vb.new w_ n _).below h2.drew
  have hr : Row ((w_.alloc (.cells (bcells n (fun _ => false)) 4)).alloc (.cells #[] 2)).drew (w_.heap.size + 1) 2 #[] := by
    have h := Row.new (w_.alloc (.cells (bcells n (fun _ => false)) 4)) 2 #[]
    rw [World.size_alloc] at h
    exact h
  exact ⟨fun k _ hk => rfl, .inl (by simp; omega), .inl (by simp), hv.below h, hr.below h, hb, Nat.le_refl _, by omega, Nat.le_refl _⟩
theorem p0t_6 {w_ w3 : World} (n : Nat) (hb : Below w_.heap.size w_ w3) (h : Below ((w_.alloc (.cells #[] 2)).alloc (.cells (bcells n (fun _ => false)) 4)).drew.heap.size ((w_.alloc (.cells #[] 2)).alloc (.cells (bcells n (fun _ => false)) 4)).drew w3) : P0T w_ w3 w3 ((w_.alloc (.cells #[] 2)).alloc (.cells (bcells n (fun _ => false)) 4)).drew.heap.size (w_.heap.size + 1) w_.heap.size n := by
  have h2 := below_alloc (w_.alloc (.cells #[] 2)) (.cells (bcells n (fun _ => false)) 4)
  have hr : Row ((w_.alloc (.cells #[] 2)).alloc (.cells (bcells n (fun _ => false)) 4)).drew w_.heap.size 2 #[] := (Row.new w_ 2 #[]).below h2.drew
  have hv : Vb ((w_.alloc (.cells #[] 2)).alloc (.cells (bcells n (fun _ => false)) 4)).drew (w_.heap.size + 1) n (fun _ => false) := by
    have h := Vb.new (w_.alloc (.cells #[] 2)) n (fun _ => false)
    rw [World.size_alloc] at h
    exact h
  exact ⟨fun k _ hk => rfl, .inl (by simp), .inl (by simp; omega), hv.below h, hr.below h, hb, by omega, Nat.le_refl _, Nat.le_refl _⟩

/-- the zone of the table is as it was, the met points, the row of lengths -/
structure QT (w_ w3 : World) (base gm n : Nat) (F : Nat → Bool) (L : List Int) (u : Value) (wr : World) : Prop where
  zone : ∀ q, base ≤ q → q < w3.heap.size → wr.heap[q]? = w3.heap[q]?
  ua : ∀ b, u.ownBlock = some b → b < base ∨ w3.heap.size ≤ b
  ro : Ro wr w_.heap.size u L
  vb : Vb wr gm n F
  bw : Below w_.heap.size w_ wr
  sz : w3.heap.size ≤ wr.heap.size
theorem P0T.qt {w_ w3 wS : World} {base gm z n : Nat} (h : P0T w_ w3 wS base gm z n) : QT w_ w3 base gm n (fun _ => false) [] (.slice (some ⟨z, 0, none⟩) 0 0) wS := by
  refine ⟨h.zone, fun b e => ?_, ⟨rfl, .inr ⟨z, 0, #[], rfl, h.zl, h.row, Nat.le_refl _, by unfold maxLen; omega, rfl, rfl⟩⟩, h.vb, h.bw, h.sz⟩
  simp only [Value.ownBlock, Option.some.injEq] at e; subst e; exact h.za
theorem QT.mark {w_ w3 wr : World} {base gm n q : Nat} {F : Nat → Bool} {L : List Int} {u : Value} (h : QT w_ w3 base gm n F L u wr) (hg : gm < base ∨ w3.heap.size ≤ gm) (hl : w_.heap.size ≤ gm) : QT w_ w3 base gm n (updA F q true) L u (wr.setCell ⟨gm, q, none⟩ (.bool true)) := by
  refine ⟨fun k h1 h2 => ?_, h.ua, World.ownsRow.kept h.ro (grown_set (grown_refl _ (some gm)) _ _) (.inr (own_typed h.ro ⟨_, h.vb⟩ (by decide))), h.vb.set q true, h.bw.setCell (p := ⟨gm, q, none⟩) hl _, by simpa using h.sz⟩
  have hk : k < wr.heap.size := Nat.lt_of_lt_of_le h2 h.sz
  have := (grown_set (grown_refl wr (some gm)) q (.bool true)).block k hk (by intro e; simp at e; omega)
  exact this.trans (h.zone k h1 h2)
theorem QT.push {w_ w3 wr w2 : World} {base gm n : Nat} {F : Nat → Bool} {L : List Int} {u v2 : Value} {x : Int} {o : Obj} (h : QT w_ w3 base gm n F L u wr) (hg : (wr.alloc o).grownBy w2 u.ownBlock) (hown : w2.ownsRow w_.heap.size 2 1 v2 (L.length + 1) (L.map (Value.int .i64) ++ [.int .i64 x])) (hat : v2.ownBlock = u.ownBlock ∨ v2.ownBlock = some (wr.alloc o).heap.size) (hb : Below w_.heap.size w_ w2) : QT w_ w3 base gm n F (L ++ [x]) v2 w2 := by
  have hz := hg.size
  rw [World.size_alloc] at hz
  have hs := h.sz
  refine ⟨fun k h1 h2 => ?_, fun b e => ?_, Ro.snoc hown, (h.vb.below (below_alloc _ _)).grown hg (own_typed h.ro ⟨_, h.vb⟩ (by decide)), hb, by omega⟩
  · have e1 := hg.block k (by rw [World.size_alloc]; omega) (fun e => by have := h.ua k e.symm; omega)
    have e2 := (below_alloc wr o).block k (by omega)
    exact (e1.trans e2).trans (h.zone k h1 h2)
  · rcases hat with e2 | e2
    · exact h.ua b (e2 ▸ e)
    · rw [e2, Option.some.injEq, World.size_alloc] at e; right; omega
theorem QT.drewN {w_ w3 wr : World} {base gm n : Nat} {F : Nat → Bool} {L : List Int} {u : Value} (h : QT w_ w3 base gm n F L u wr) (m : Nat) : QT w_ w3 base gm n F L u (wr.drewN m) := by
  have hb : Below wr.heap.size wr (wr.drewN m) := below_drewN (Below.refl _ _) m
  have hs := h.sz
  exact ⟨fun q h1 h2 => (hb.block q (by omega)).trans (h.zone q h1 h2), h.ua, own_below h.ro hb, h.vb.below hb, below_up h.bw hb, Nat.le_trans hs hb.size⟩
/-- a cell of the zone -/
theorem QT.cell {w_ w3 wr : World} {base gm n g o : Nat} {F : Nat → Bool} {L : List Int} {u x : Value} (h : QT w_ w3 base gm n F L u wr) (h1 : base ≤ g) (h2 : g < w3.heap.size) (hc : w3.cell? ⟨g, o, none⟩ = some x) : wr.cell? ⟨g, o, none⟩ = some x := by
  rw [← hc]
  have := h.zone g h1 h2
  unfold World.cell?
  rw [this]
theorem LLh.tbz {w : World} {base gu c m : Nat} {hs : Nat → Value} {op : Int → Int → Int} (h : LLh w base (.slice (some ⟨gu, 0, none⟩) m c) hs (tabR op m) m m) (hm : 0 < m) : base ≤ gu ∧ gu < w.heap.size ∧ ∀ a : Nat, a < m → ∃ p d, base ≤ p ∧ p < w.heap.size ∧ w.cell? ⟨gu, a, none⟩ = some (.slice (some ⟨p, 0, none⟩) m d) ∧ ∀ b : Nat, b < m → w.cell? ⟨p, b, none⟩ = some (.int .i64 (op a b)) := by
  obtain ⟨_, k1, k2⟩ := h.at_ (k := 0) hm
  refine ⟨k2, k1, fun a ha => ?_⟩
  obtain ⟨h1, _, _⟩ := h.at_ ha
  obtain ⟨p, d, h2, h5, h3, h4⟩ := (h.2.1 a ha).form (by rw [tabR_len]; omega)
  rw [tabR_len] at h2
  exact ⟨p, d, h5, h3, by rw [h1, h2], fun b hb => by rw [h4 b (by rw [tabR_len]; exact hb), tabR_nth _ hb]⟩

/-- the first numbers with other signs -/
def negN (S : List Int) (i : Nat) : List Int := (S.take i).map (fun x => -x) ++ S.drop i
theorem negN_len {S : List Int} {i : Nat} : (negN S i).length = S.length := by unfold negN; simp; omega
theorem negN_zero (S : List Int) : negN S 0 = S := by simp [negN]
theorem negN_full (S : List Int) : negN S S.length = S.map (fun x => -x) := by simp [negN]
theorem negN_nth {S : List Int} {i : Nat} (h : i < S.length) : nthI (negN S i) i = nthI S i := by
  unfold nthI negN
  rw [List.getD_eq_getElem?_getD, List.getElem?_append_right (by simp; omega), List.getElem?_drop, List.getD_eq_getElem?_getD]
  congr 2
  rw [List.length_map, List.length_take]; omega
theorem negN_set {S : List Int} {i : Nat} (h : i < S.length) : (negN S i).set i (-(nthI S i)) = negN S (i + 1) := by
  unfold negN
  have hl : ((S.take i).map (fun x => -x)).length = i := by rw [List.length_map, List.length_take]; omega
  have e2 : S.drop i = nthI S i :: S.drop (i + 1) := by rw [nthI_get h, List.drop_eq_getElem_cons h]
  have key : ∀ (A B : List Int) (x y : Int), (A ++ x :: B).set A.length y = A ++ y :: B := by
    intro A B x y
    induction A with
    | nil => rfl
    | cons a A ih => simp at ih ⊢
  have h3 := key ((S.take i).map (fun x => -x)) (S.drop (i + 1)) (nthI S i) (-(nthI S i))
  rw [hl] at h3
  rw [e2, h3, ← takeI_next h]
  simp

end Go.Proofs.Ytabgmjakkgalgaa

/- The contract of the reference's ProductOfTurns; conditions: stated in it. -/
namespace Go.Proofs.Ytabgmjakkgalgaa
open Go.RowKit
set_option maxHeartbeats 4000000
set_option maxRecDepth 100000
set_option linter.unusedSimpArgs false
set_option linter.unusedVariables false

theorem specPot_any (v : Int) (A : Option Addr) (c : Nat) (xs : List Blk) (a b : Int) (w : World) (hA : Bl w A xs) (hl : xs.length ≤ 1048576) :
    Calls Try.prog 15 #[.agg #[.int .i64 v, .slice A xs.length c], .int .i64 a, .int .i64 b] w (LP w (potR v xs a b).1 (potR v xs a b).2) := by
  obtain ⟨ni0, hni, hni0, hni1, hni2⟩ := info_parts infoInt'
  have HN : Hid (potR v xs a b = if elCode v xs (v - 1) [a, b] ≠ 0 then ([], elCode v xs (v - 1) [a, b]) else (dscI (potL xs v.toNat a.toNat b.toNat), 0)) := rfl
  generalize potR v xs a b = R at *
  have HI := Lib.hid (Il.new1 w (.cells #[.int .i64 v, .slice A xs.length c] 30) [a, b] 2)
  have HV : Hid (isSysB v xs = true → 0 ≤ v ∧ v ≤ 100) := fun h => by have := (isSysB_iff.1 h).1; omega
  by_cases h1 : elCode v xs (v - 1) [a, b] = 0
  · obtain ⟨hs, hin, hfu⟩ := elCode_zero h1
    have hin2 := in_two hin
    have hv := (isSysB_iff.1 hs).1
    have HS := Lib.hid (isSysB_iff.1 hs)
    have H := Lib.hid h1; clear h1 hin hs
    obtain ⟨n, rfl⟩ := Int.eq_ofNat_of_zero_le (by omega : 0 ≤ v)
    obtain ⟨a, rfl⟩ := Int.eq_ofNat_of_zero_le hin2.1.1
    obtain ⟨b, rfl⟩ := Int.eq_ofNat_of_zero_le hin2.2.1
    have HPa := Lib.hid (ptF_is HS.out hfu (a := a) (by omega))
    have HPb := Lib.hid (ptF_is HS.out hfu (a := b) (by omega))
    have hna : a < n := by omega
    have hnb : b < n := by omega
    clear hfu
    go_enter Try.func15, Try.ntmps15
    have HA := Lib.hid hA; clear hA; have HR := Lib.hid (Row.box w 30 (.int .i64 n) (.slice A xs.length c)); have HW := Lib.hid (Since.refl w)
    replace HA := Lib.hid (HA.out.below (below_alloc _ (.cells #[.int .i64 n, .slice A xs.length c] 30))); replace HW := Lib.hid (HW.out.below (below_alloc _ (.cells #[.int .i64 n, .slice A xs.length c] 30)))
    go_wp2_with fail
    replace HA := Lib.hid (HA.out.below (below_alloc _ (.cells #[.int .i64 a, .int .i64 b] 2))); replace HW := Lib.hid (HW.out.below (below_alloc _ (.cells #[.int .i64 a, .int .i64 b] 2))); replace HR := Lib.hid (HR.out.below (below_alloc _ (.cells #[.int .i64 a, .int .i64 b] 2))); (try clear c0 c1); obtain ⟨c0, c1⟩ := HR.out.c2
    refine (l09Points_any n A c xs n (some ⟨w.heap.size + 1, 0, none⟩) 2 [(a : Int), (b : Int)] _ HA.out hl HI.out (by simp) HV.out).mono ?_; rw [H.out]; rintro e w_ ⟨rfl, hb⟩; replace HA := Lib.hid (HA.out.below hb); replace HW := Lib.hid (HW.out.below hb); replace HR := Lib.hid (HR.out.below hb); clear hb; (try clear c0 c1); obtain ⟨c0, c1⟩ := HR.out.c2
    have hto : ((n : Int)).toNat = n := by simp
    have hn1 : (n : Int) ≤ 1000000 := by omega
    go_wp2
    have HKEEP := Lib.hid (And.intro c0 c1)
    have HBB : Hid (∀ W, Below w_.heap.size w_ W → (W.cell? ⟨w.heap.size, 0, none⟩ = some (.int .i64 n) ∧ W.cell? ⟨w.heap.size, 1, none⟩ = some (.slice A xs.length c))) := fun W hb => (HR.out.below hb).c2
    clear c0 c1
    go_region_held3 (fun w' => w'.cell? ⟨w.heap.size, 0, none⟩ = some (.int .i64 n) ∧ w'.cell? ⟨w.heap.size, 1, none⟩ = some (.slice A xs.length c)) (first | exact HKEEP.out | exact HBB.out _ (by (repeat' (first | (with_reducible exact Below.refl _ _) | (with_reducible assumption) | (with_reducible refine below_drewN ?_ _) | (with_reducible refine Below.drew ?_) | (with_reducible refine Below.alloc ?_ ?_ _) | (with_reducible refine Below.setCell ?_ ?_ _) | go_size)))) (first
      | (go_at_call 42
         refine (l09Table_any n A c xs _ (HA.out.below (by (repeat' (first | (with_reducible exact Below.refl _ _) | (with_reducible assumption) | (with_reducible refine below_drewN ?_ _) | (with_reducible refine Below.drew ?_) | (with_reducible refine Below.alloc ?_ ?_ _) | (with_reducible refine Below.setCell ?_ ?_ _) | go_size)))) hl HS.out).mono ?_
         rintro r w3 ⟨u, hs, rfl, hL, hb⟩
         obtain ⟨gu, cu, rfl, hgb, hgl⟩ := hL.form (by omega)
         have HL := Lib.hid hL
         have HB3 : Hid (Below w_.heap.size w_ w3) := below_up (by (repeat' (first | (with_reducible exact Below.refl _ _) | (with_reducible assumption) | (with_reducible refine below_drewN ?_ _) | (with_reducible refine Below.drew ?_) | (with_reducible refine Below.alloc ?_ ?_ _) | (with_reducible refine Below.setCell ?_ ?_ _) | go_size))) hb
         have HP3 := Lib.hid hb
         replace HKEEP := Lib.hid (HBB.out _ HB3.out)
         have hb3 := HB3.out
         have hz3 := HB3.out.size
         clear hL hb hgb hgl))
    obtain ⟨wS, hS_⟩ : ∃ x : World, x = ((w3.alloc (.cells (bcells n (fun _ => false)) 4)).alloc (.cells #[] 2)) := ⟨_, rfl⟩
    obtain ⟨z, hz_⟩ : ∃ x : Nat, x = w3.heap.size + 1 := ⟨_, rfl⟩
    obtain ⟨gm, hg_⟩ : ∃ x : Nat, x = w3.heap.size := ⟨_, rfl⟩
    obtain ⟨base, hb_⟩ : ∃ x : Nat, x = w_.drew.heap.size := ⟨_, rfl⟩
    have HP : Hid (P0T w_ w3 wS base gm z n) := by rw [hS_, hz_, hg_, hb_]; exact p0t_1 _ n HB3.out
    replace HL : Hid (LLh w3 base (.slice (some ⟨gu, 0, none⟩) n cu) hs (tabR (prodI xs) n) n n) := by rw [hb_]; exact HL.out
    rw [← hS_, ← hz_, ← hg_]
    clear hS_ hz_ hg_ hb_ HP3 hb3 hz3
    rotate_left
    obtain ⟨wS, hS_⟩ : ∃ x : World, x = ((w3.alloc (.cells #[] 2)).alloc (.cells (bcells n (fun _ => false)) 4)) := ⟨_, rfl⟩
    obtain ⟨z, hz_⟩ : ∃ x : Nat, x = w3.heap.size := ⟨_, rfl⟩
    obtain ⟨gm, hg_⟩ : ∃ x : Nat, x = w3.heap.size + 1 := ⟨_, rfl⟩
    obtain ⟨base, hb_⟩ : ∃ x : Nat, x = w_.drew.heap.size := ⟨_, rfl⟩
    have HP : Hid (P0T w_ w3 wS base gm z n) := by rw [hS_, hz_, hg_, hb_]; exact p0t_2 _ n HB3.out
    replace HL : Hid (LLh w3 base (.slice (some ⟨gu, 0, none⟩) n cu) hs (tabR (prodI xs) n) n n) := by rw [hb_]; exact HL.out
    rw [← hS_, ← hg_, ← hz_]
    clear hS_ hz_ hg_ hb_ HP3 hb3 hz3
    rotate_left
    obtain ⟨wS, hS_⟩ : ∃ x : World, x = (w3.alloc (.cells #[] 2)) := ⟨_, rfl⟩
    obtain ⟨z, hz_⟩ : ∃ x : Nat, x = w3.heap.size := ⟨_, rfl⟩
    obtain ⟨gm, hg_⟩ : ∃ x : Nat, x = w_.heap.size := ⟨_, rfl⟩
    obtain ⟨base, hb_⟩ : ∃ x : Nat, x = (w_.alloc (.cells (bcells n (fun _ => false)) 4)).drew.heap.size := ⟨_, rfl⟩
    have HP : Hid (P0T w_ w3 wS base gm z n) := by rw [hS_, hz_, hg_, hb_]; exact p0t_3 n HB3.out HP3.out
    replace HL : Hid (LLh w3 base (.slice (some ⟨gu, 0, none⟩) n cu) hs (tabR (prodI xs) n) n n) := by rw [hb_]; exact HL.out
    rw [← hS_, ← hz_, ← hg_]
    clear hS_ hz_ hg_ hb_ HP3 hb3 hz3
    rotate_left
    obtain ⟨wS, hS_⟩ : ∃ x : World, x = w3 := ⟨_, rfl⟩
    obtain ⟨z, hz_⟩ : ∃ x : Nat, x = w_.heap.size + 1 := ⟨_, rfl⟩
    obtain ⟨gm, hg_⟩ : ∃ x : Nat, x = w_.heap.size := ⟨_, rfl⟩
    obtain ⟨base, hb_⟩ : ∃ x : Nat, x = ((w_.alloc (.cells (bcells n (fun _ => false)) 4)).alloc (.cells #[] 2)).drew.heap.size := ⟨_, rfl⟩
    have HP : Hid (P0T w_ w3 wS base gm z n) := by rw [hS_, hz_, hg_, hb_]; exact p0t_4 n HB3.out HP3.out
    replace HL : Hid (LLh w3 base (.slice (some ⟨gu, 0, none⟩) n cu) hs (tabR (prodI xs) n) n n) := by rw [hb_]; exact HL.out
    rw [← hS_, ← hz_, ← hg_]
    clear hS_ hz_ hg_ hb_ HP3 hb3 hz3
    rotate_left
    obtain ⟨wS, hS_⟩ : ∃ x : World, x = (w3.alloc (.cells (bcells n (fun _ => false)) 4)) := ⟨_, rfl⟩
    obtain ⟨z, hz_⟩ : ∃ x : Nat, x = w_.heap.size := ⟨_, rfl⟩
    obtain ⟨gm, hg_⟩ : ∃ x : Nat, x = w3.heap.size := ⟨_, rfl⟩
    obtain ⟨base, hb_⟩ : ∃ x : Nat, x = (w_.alloc (.cells #[] 2)).drew.heap.size := ⟨_, rfl⟩
    have HP : Hid (P0T w_ w3 wS base gm z n) := by rw [hS_, hz_, hg_, hb_]; exact p0t_5 n HB3.out HP3.out
    replace HL : Hid (LLh w3 base (.slice (some ⟨gu, 0, none⟩) n cu) hs (tabR (prodI xs) n) n n) := by rw [hb_]; exact HL.out
    rw [← hS_, ← hg_, ← hz_]
    clear hS_ hz_ hg_ hb_ HP3 hb3 hz3
    rotate_left
    obtain ⟨wS, hS_⟩ : ∃ x : World, x = w3 := ⟨_, rfl⟩
    obtain ⟨z, hz_⟩ : ∃ x : Nat, x = w_.heap.size := ⟨_, rfl⟩
    obtain ⟨gm, hg_⟩ : ∃ x : Nat, x = w_.heap.size + 1 := ⟨_, rfl⟩
    obtain ⟨base, hb_⟩ : ∃ x : Nat, x = ((w_.alloc (.cells #[] 2)).alloc (.cells (bcells n (fun _ => false)) 4)).drew.heap.size := ⟨_, rfl⟩
    have HP : Hid (P0T w_ w3 wS base gm z n) := by rw [hS_, hz_, hg_, hb_]; exact p0t_6 n HB3.out HP3.out
    replace HL : Hid (LLh w3 base (.slice (some ⟨gu, 0, none⟩) n cu) hs (tabR (prodI xs) n) n n) := by rw [hb_]; exact HL.out
    rw [← hS_, ← hg_, ← hz_]
    clear hS_ hz_ hg_ hb_ HP3 hb3 hz3
    rotate_left
    all_goals
      have HQ0 := Lib.hid HP.out.qt
      have HGA := Lib.hid HP.out.gma
      have HGL := Lib.hid HP.out.gl
      obtain ⟨hgu1, hgu2, hrow⟩ := HL.out.tbz (by omega)
      obtain ⟨p1, d1, hp1, hp2, hp3, hx1⟩ := hrow a hna
      obtain ⟨p2, d2, hq1, hq2, hq3, hx2⟩ := hrow b hnb
      have HX1 : Hid (∀ q, q < n → w3.cell? ⟨p1, q, none⟩ = some (.int .i64 (ptF xs a q : Nat))) := fun q hq => by
        have h := hx1 q hq; rw [(HPa.out q hq).1] at h; exact h
      have HX2 : Hid (∀ q, q < n → w3.cell? ⟨p2, q, none⟩ = some (.int .i64 (ptF xs b q : Nat))) := fun q hq => by
        have h := hx2 q hq; rw [(HPb.out q hq).1] at h; exact h
      have HLa := Lib.hid (fun q hq => (HPa.out q hq).2)
      have HLb := Lib.hid (fun q hq => (HPb.out q hq).2)
      have HF : Hid (∀ q, q < n → ptF xs b (ptF xs a q) < n) := fun q hq => HLb.out _ (HLa.out q hq)
      have HCL : Hid (∀ p, (cycS (fun q => ptF xs b (ptF xs a q)) n p).2.length ≤ p) := cycS_len _ _
      have HRES : Hid (R = (dscI (cycS (fun q => ptF xs b (ptF xs a q)) n n).2, 0)) := by unfold Hid; rw [HN.out, if_neg (by simp [H.out])]; rfl
      have HTL : Hid (∀ p, (turnF (fun q => ptF xs b (ptF xs a q)) n (cycS (fun q => ptF xs b (ptF xs a q)) n p).1 p 0).2 ≤ n) := fun p => by have := (turnF_le (fun q => ptF xs b (ptF xs a q)) n (cycS (fun q => ptF xs b (ptF xs a q)) n p).1 p 0).2; omega
      have HTB : Hid (∀ F L u wr, QT w_ w3 base gm n F L u wr → wr.cell? ⟨gu, a, none⟩ = some (.slice (some ⟨p1, 0, none⟩) n d1) ∧ wr.cell? ⟨gu, b, none⟩ = some (.slice (some ⟨p2, 0, none⟩) n d2)) := fun F L u wr h => ⟨h.cell hgu1 hgu2 hp3, h.cell hgu1 hgu2 hq3⟩
      have HTX : Hid (∀ F L u wr, QT w_ w3 base gm n F L u wr → ∀ q, q < n → wr.cell? ⟨p1, q, none⟩ = some (.int .i64 (ptF xs a q : Nat)) ∧ wr.cell? ⟨p2, ptF xs a q, none⟩ = some (.int .i64 (ptF xs b (ptF xs a q) : Nat))) := fun F L u wr h q hq => ⟨h.cell hp1 hp2 (HX1.out q hq), h.cell hq1 hq2 (HX2.out _ (HLa.out q hq))⟩
      clear HN H HI hin2 HL HP HPa HPb hrow hx1 hx2 hp1 hp2 hp3 hq1 hq2 hq3 hgu1 hgu2 HX1 HX2 HKEEP hto hn1
      go_wp2
      go_loopw [11, 12] (fun u i wr => ∃ p : Nat, p ≤ n ∧ i = .int .i64 p ∧ Hid (QT w_ w3 base gm n (cycS (fun q => ptF xs b (ptF xs a q)) n p).1 ((cycS (fun q => ptF xs b (ptF xs a q)) n p).2.map (fun x => -x)) u wr)) (fun _ i _ => n - (intOf i).toNat)
      case atStart => exact ⟨0, by omega, rfl, HQ0.out⟩
      case round =>
        obtain ⟨p, hp, rfl, HC⟩ := hrel
        have hcl := HCL.out p
        obtain ⟨c0, c1⟩ := HBB.out _ HC.out.bw
        by_cases hlt : p < n
        · have HNX : Hid (cycS (fun q => ptF xs b (ptF xs a q)) n (p + 1) = ((turnF (fun q => ptF xs b (ptF xs a q)) n (cycS (fun q => ptF xs b (ptF xs a q)) n p).1 p 0).1, if 0 < (turnF (fun q => ptF xs b (ptF xs a q)) n (cycS (fun q => ptF xs b (ptF xs a q)) n p).1 p 0).2 then (cycS (fun q => ptF xs b (ptF xs a q)) n p).2 ++ [((turnF (fun q => ptF xs b (ptF xs a q)) n (cycS (fun q => ptF xs b (ptF xs a q)) n p).1 p 0).2 : Int)] else (cycS (fun q => ptF xs b (ptF xs a q)) n p).2)) := rfl
          have htl := HTL.out p
          generalize hT : turnF (fun q => ptF xs b (ptF xs a q)) n (cycS (fun q => ptF xs b (ptF xs a q)) n p).1 p 0 = T at *
          have HT := Lib.hid hT
          clear hT
          generalize cycS (fun q => ptF xs b (ptF xs a q)) n p = C at *
          go_wp2
          clear c0 c1
          obtain ⟨wo, rfl⟩ : ∃ wo : World, wo = wr := ⟨_, rfl⟩
          go_loopw [13, 14] (fun x y wr => ∃ (k q : Nat) (F : Nat → Bool), k ≤ n ∧ q < n ∧ x = .int .i64 (k : Nat) ∧ y = .int .i64 (q : Nat) ∧ unS F n ≤ n - k ∧ Hid (QT w_ w3 base gm n F (C.2.map (fun x => -x)) u11 wr ∧ turnF (fun q => ptF xs b (ptF xs a q)) (n - k) F q k = T)) (fun x _ _ => n - (intOf x).toNat)
          case atStart => exact ⟨0, p, C.1, by omega, hlt, rfl, rfl, unS_le _ _, HC.out, HT.out⟩
          case round =>
            obtain ⟨k, q, F, hk, hq, rfl, rfl, hun, HD⟩ := hrel
            have q0 := HD.out.1.vb.cell hq
            have qf := HD.out.1.vb.frozen q
            have ql := HD.out.1.vb.lt
            cases hF : F q
            · have HUP := Lib.hid (unS_put hq hF)
              have hkn : k < n := by have := HUP.out; omega
              have HNT : Hid (turnF (fun q => ptF xs b (ptF xs a q)) (n - (k + 1)) (updA F q true) (ptF xs b (ptF xs a q)) (k + 1) = T) := by
                have h := HD.out.2
                rw [(by omega : n - k = n - (k + 1) + 1), turnF_next hF] at h
                exact h
              rw [hF] at q0
              have HQS := Lib.hid (HD.out.1.mark (q := q) HGA.out HGL.out)
              obtain ⟨t1, t2⟩ := HTB.out _ _ _ _ HQS.out
              obtain ⟨r1, r2⟩ := HTX.out _ _ _ _ HQS.out q hq
              have hpa := HLa.out q hq
              have hpb := HF.out q hq
              go_wp2
              go_quiet (fail)
              go_wp2
              go_roundw
              case rel => exact ⟨k + 1, _, updA F q true, by omega, hpb, by go_num, by go_num, by have := HUP.out; omega, HQS.out.drewN _, HNT.out⟩
              case measure => simp [intOf]; omega
            · have HTD : Hid (T = (F, k)) := by rw [← HD.out.2]; exact turnF_done hF
              rw [hF] at q0
              by_cases hk0 : 0 < k
              · have HN2 : Hid (cycS (fun q => ptF xs b (ptF xs a q)) n (p + 1) = (F, C.2 ++ [(k : Int)])) := by unfold Hid; rw [HNX.out, HTD.out]; show (F, if 0 < k then _ else _) = _; rw [if_pos hk0]
                have HO : Hid (wr.ownsRow w_.heap.size 2 1 u11 C.2.length ((C.2.map (fun x => -x)).map (Value.int .i64))) := by have := HD.out.1.ro; unfold Ro at this; rw [List.length_map] at this; exact this
                have HB2 := Lib.hid HD.out.1.bw
                have hbw_ := HB2.out.size; go_wp2_with (at_builtin; refine wpList_append_own_at _ rfl _ _ 36 rfl (w_).heap.size 2 ni0 (.int .i64 0) 1 8 Try.underlying36 hni hni0 hni1 hni2 rfl (by decide) _ _ _ rfl (HO.out.alloc _) ⟨(wr).heap.size, 0, none⟩ 1 1 [.int .i64 (-(k : Int))] rfl rfl (cells_new _ _ _) (by simp [Value.oneCell']) (by unfold maxLen; omega) (by omega) (by simp; omega) ?_; intro v2 w2 hown2 hg2 _ hat2); have HO2 := Lib.hid hown2; have HB3 : Hid (Below (w_).heap.size (w_) w2) := (HB2.out.alloc HB2.out.size _).grown hg2 (by simp; omega) (own_block HO.out); have HG2 := Lib.hid hg2; have HAT2 := Lib.hid hat2; clear hown2 hg2 hat2 hbw_
                have HQ2 : Hid (QT w_ w3 base gm n F (C.2.map (fun x => -x) ++ [-(k : Int)]) v2 w2) := HD.out.1.push HG2.out (by have h := HO2.out; rw [List.length_map]; exact h) HAT2.out HB3.out
                go_wp2
                go_roundw
                case rel =>
                  refine ⟨p + 1, by omega, by go_num, ?_⟩
                  rw [HN2.out]
                  show QT w_ w3 base gm n F ((C.2 ++ [(k : Int)]).map (fun x => -x)) v2 w2
                  rw [List.map_append]; exact HQ2.out
                case measure => simp [intOf]; omega
              · have HN2 : Hid (cycS (fun q => ptF xs b (ptF xs a q)) n (p + 1) = (F, C.2)) := by unfold Hid; rw [HNX.out, HTD.out]; show (F, if 0 < k then _ else _) = _; rw [if_neg hk0]
                go_wp2
                go_roundw
                case rel =>
                  refine ⟨p + 1, by omega, by go_num, ?_⟩
                  rw [HN2.out]; exact HD.out.1
                case measure => simp [intOf]; omega
        · obtain rfl : p = n := by omega
          have hro := HC.out.ro
          obtain ⟨Bo, dO, hu, hil, _⟩ := hro.il
          have HIL := Lib.hid hil
          have HBW := Lib.hid HC.out.bw
          subst hu
          have hll : ((cycS (fun q => ptF xs b (ptF xs a q)) p p).2.map (fun x => -x)).length ≤ 15 := by rw [List.length_map]; omega
          have HMB : ∀ x ∈ (cycS (fun q => ptF xs b (ptF xs a q)) p p).2.map (fun x => -x), -15 ≤ x ∧ x ≤ 0 := by
            intro x hx
            obtain ⟨y, hy, rfl⟩ := List.mem_map.1 hx
            have := cycS_bd (fun q => ptF xs b (ptF xs a q)) p p y hy
            omega
          have HDN := Lib.hid (dsc_neg (cycS (fun q => ptF xs b (ptF xs a q)) p p).2)
          generalize ((cycS (fun q => ptF xs b (ptF xs a q)) p p).2.map (fun x => -x)) = M at *
          clear hro hil HC HCL HTL HTB HTX HF HLa HLb HQ0
          go_wp2_with fail
          refine (l03Asc_any Bo dO M _ HIL.out (by omega)).mono ?_
          rintro e w5 ⟨us, rfl, hO, hb⟩
          have HS5 := Lib.hid hO
          have HB5 : Hid (Below w_.heap.size w_ w5) := below_up HBW.out hb
          have hz5 : w_.heap.size ≤ wr.heap.size := HBW.out.size
          have hsl := srtI_len M
          have HBD : Hid (∀ i, i < (srtI M).length → -15 ≤ nthI (srtI M) i ∧ nthI (srtI M) i ≤ 0) := fun i hi => HMB _ ((srtI_perm M).mem_iff.1 (show nthI (srtI M) i ∈ srtI M by rw [nthI_get hi]; exact List.getElem_mem hi))
          have HRS : Hid (R = ((srtI M).map (fun x => -x), 0)) := by unfold Hid; rw [HRES.out, HDN.out]
          generalize srtI M = S at *
          clear hO hb HBW HIL c0 c1 HMB
          obtain ⟨wz, rfl⟩ : ∃ wz : World, wz = wr := ⟨_, rfl⟩
          obtain ⟨A5, c5, hu5⟩ := own_slice HS5.out
          subst hu5
          have HB50 : Hid (Below wz.heap.size w5 w5) := Below.refl _ _
          go_wp2
          go_loopw [15] (fun i wq => ∃ j : Nat, j ≤ S.length ∧ i = .int .i64 j ∧ Hid (Ro wq wz.heap.size (.slice A5 S.length c5) (negN S j) ∧ Below w_.heap.size w_ wq)) (fun i _ => S.length - (intOf i).toNat)
          case atStart => exact ⟨0, by omega, rfl, by rw [negN_zero]; exact HS5.out, HB5.out⟩
          case round =>
            obtain ⟨j, hj, rfl, HD⟩ := hrel
            have HNS : Hid (negN S S.length = S.map (fun x => -x)) := negN_full S
            by_cases hjs : j < S.length
            · obtain ⟨g5, e5, he5, hge5, hgl5, hx5⟩ := HD.out.1.form (by rw [negN_len]; omega)
              simp only [Value.slice.injEq] at he5
              obtain ⟨rfl, -, -⟩ := he5
              have x5 := hx5 j (by rw [negN_len]; exact hjs)
              rw [negN_nth hjs] at x5
              have f5 := HD.out.1.frozen j
              have hbd := HBD.out j hjs
              have HST : Hid (Ro (wr.setCell ⟨g5, j, none⟩ (.int .i64 (-(nthI S j)))) wz.heap.size (.slice (some ⟨g5, 0, none⟩) S.length c5) (negN S (j + 1))) := by
                have h := HD.out.1.set (-(nthI S j)) (k := j)
                rw [negN_set hjs] at h
                exact h
              have HBT := Lib.hid (HD.out.2.setCell (p := ⟨g5, j, none⟩) (show w_.heap.size ≤ g5 by omega) (.int .i64 (-(nthI S j))))
              clear hx5
              go_wp2
              go_roundw
              case rel => exact ⟨j + 1, by omega, by go_num, HST.out, HBT.out⟩
              case measure => simp [intOf]; omega
            · obtain rfl : j = S.length := by omega
              have HFI : Hid (Ro wr w.heap.size (.slice A5 M.length c5) (S.map (fun x => -x))) := by rw [← HNS.out, ← hsl]; exact own_base HD.out.1 (Nat.le_trans HW.out.size hz5)
              have HFB := Lib.hid (below_up HW.out HD.out.2)
              go_wp2
              go_ret2
              exact LP.mk HFI.out (by rw [HRS.out]) (by rw [HRS.out]) HFB.out
  · have h1' : (elCode v xs (v - 1) [a, b] != 0) = true := by simpa using h1
    have h1'' : (elCode v xs (v - 1) [a, b] == 0) = false := by simpa using h1
    have H := Lib.hid h1; clear h1
    have HA := Lib.hid hA; clear hA; have HR := Lib.hid (Row.box w 30 (.int .i64 v) (.slice A xs.length c)); have HW := Lib.hid (Since.refl w); go_enter Try.func15, Try.ntmps15; go_wp2_with fail; replace HA := Lib.hid (HA.out.below (below_alloc _ (.cells #[.int .i64 v, .slice A xs.length c] 30))); replace HW := Lib.hid (HW.out.below (below_alloc _ (.cells #[.int .i64 v, .slice A xs.length c] 30)))
    replace HA := Lib.hid (HA.out.below (below_alloc _ (.cells #[.int .i64 a, .int .i64 b] 2))); replace HW := Lib.hid (HW.out.below (below_alloc _ (.cells #[.int .i64 a, .int .i64 b] 2))); replace HR := Lib.hid (HR.out.below (below_alloc _ (.cells #[.int .i64 a, .int .i64 b] 2))); (try clear c0 c1); obtain ⟨c0, c1⟩ := HR.out.c2
    refine (l09Points_any v A c xs v (some ⟨w.heap.size + 1, 0, none⟩) 2 [a, b] _ HA.out hl HI.out (by simp) HV.out).mono ?_; rintro e w_ ⟨rfl, hb⟩; replace HW := Lib.hid (HW.out.below hb); clear hb
    go_wp2
    go_ret2
    exact LP.nil (by rw [HN.out, if_pos H.out]) (by rw [HN.out, if_pos H.out]) HW.out

end Go.Proofs.Ytabgmjakkgalgaa
