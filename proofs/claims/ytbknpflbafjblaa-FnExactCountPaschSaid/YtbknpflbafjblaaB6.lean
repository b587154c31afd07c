/- Plain laws and contracts, part 6; conditions: stated in each. -/
import Derived.Shelf.SlSortCmp.NoneTotal
import Derived.OrdersHeld
import Derived.Deep.RegionHeld
import Derived.Test.YtbknpflbafjblaaB1
import Derived.Test.YtbknpflbafjblaaB2
set_option linter.unusedSimpArgs false
set_option linter.unusedVariables false
/- Plain laws of blocks in order, and of filled systems. Conditions: stated in each. -/
namespace Go.Proofs.Ytbknpflbafjblaa

theorem bef_irr (a : Blk) : befB a a = false := by unfold befB; simp
theorem bef_tr {a b c : Blk} (h1 : befB a b = true) (h2 : befB b c = true) : befB a c = true := by unfold befB at *; simp only [decide_eq_true_eq] at *; omega
theorem bef_tri {a b : Blk} (h1 : befB a b = false) (h2 : befB b a = false) : a = b := by
  unfold befB at *
  simp only [decide_eq_false_iff_not] at *
  have e1 : a.1 = b.1 := by omega
  have e2 : a.2.1 = b.2.1 := by omega
  have e3 : a.2.2 = b.2.2 := by omega
  exact Prod.ext e1 (Prod.ext e2 e3)
def leB (a b : Blk) : Bool := !befB b a
theorem le_trans' {a b c : Blk} (h1 : leB a b = true) (h2 : leB b c = true) : leB a c = true := by
  unfold leB befB at *; simp only [Bool.not_eq_true', decide_eq_false_iff_not] at *; omega
theorem le_total' (a b : Blk) : (leB a b || leB b a) = true := by
  unfold leB befB; simp only [Bool.or_eq_true, Bool.not_eq_true', decide_eq_false_iff_not]; omega
theorem le_anti {a b : Blk} (h1 : leB a b = true) (h2 : leB b a = true) : a = b := by
  unfold leB at *; simp only [Bool.not_eq_true'] at *; exact bef_tri h2 h1
theorem bef_le {a b : Blk} (h : befB a b = true) : leB a b = true := by
  unfold leB befB at *; simp only [Bool.not_eq_true', decide_eq_false_iff_not, decide_eq_true_eq] at *; omega
/-- blocks in order -/
def srtL (xs : List Blk) : List Blk := xs.mergeSort leB
theorem srt_perm (xs : List Blk) : (srtL xs).Perm xs := List.mergeSort_perm _ _
theorem srt_sorted (xs : List Blk) : (srtL xs).Pairwise (fun a b => leB a b = true) := List.pairwise_mergeSort (le := leB) (fun a b c h1 h2 => le_trans' h1 h2) (fun a b => le_total' a b) xs
theorem srt_uniq {l xs : List Blk} (hp : l.Perm xs) (hs : l.Pairwise (fun a b => leB a b = true)) : srtL xs = l :=
  List.Perm.eq_of_pairwise (le := fun a b => leB a b = true) (fun a b _ _ => le_anti) (srt_sorted xs) hs ((srt_perm xs).trans hp.symm)
theorem srt_len (xs : List Blk) : (srtL xs).length = xs.length := (srt_perm xs).length_eq
theorem srt_app (ys : List Blk) (b : Blk) : srtL (srtL ys ++ [b]) = srtL (ys ++ [b]) :=
  srt_uniq ((srt_perm _).trans ((srt_perm ys).append_right [b]).symm) (srt_sorted _)
theorem srt_congr {xs ys : List Blk} (h : xs.Perm ys) : srtL xs = srtL ys := srt_uniq ((srt_perm ys).trans h.symm) (srt_sorted _)
theorem srt_self {xs : List Blk} (h : xs.Pairwise (fun a b => leB a b = true)) : srtL xs = xs := srt_uniq (List.Perm.refl _) h
theorem nth_get {xs : List Blk} {k : Nat} (h : k < xs.length) : nth xs k = xs[k] := by simp [nth, h]
theorem nth_mem {xs : List Blk} {k : Nat} (h : k < xs.length) : nth xs k ∈ xs := by rw [nth_get h]; exact List.getElem_mem h
theorem mem_nth {xs : List Blk} {b : Blk} (h : b ∈ xs) : ∃ k, k < xs.length ∧ nth xs k = b := by
  obtain ⟨k, hk, e⟩ := List.getElem_of_mem h
  exact ⟨k, hk, by rw [nth_get hk, e]⟩
theorem nth_app {xs ys : List Blk} {k : Nat} (h : k < xs.length) : nth (xs ++ ys) k = nth xs k := by simp [nth, List.getElem?_append_left h]
theorem nth_last (xs : List Blk) (b : Blk) : nth (xs ++ [b]) xs.length = b := by simp [nth]
theorem are_sorted {v : Int} {xs : List Blk} (ha : areB v xs) : xs.Pairwise (fun a b => leB a b = true) := by
  rw [List.pairwise_iff_getElem]
  intro i j hi hj hij
  have := are_bef ha j hj i hij
  rw [nth_get hi, nth_get hj] at this
  exact bef_le this
/-- a block put in at its place -/
theorem ins_srt {out : List Blk} {b : Blk} {a : Nat} (hs : out.Pairwise (fun a b => leB a b = true)) (ha : a ≤ out.length) (h1 : ∀ j, a ≤ j → j < out.length → befB b (nth out j) = true) (h2 : a = 0 ∨ befB b (nth out (a - 1)) = false) :
    out.take a ++ [b] ++ out.drop a = srtL (out ++ [b]) := by
  symm
  refine srt_uniq ?_ ?_
  · have : (out.take a ++ [b] ++ out.drop a).Perm (out.take a ++ out.drop a ++ [b]) := by
      rw [List.append_assoc, List.append_assoc]
      exact (List.perm_append_comm).append_left _
    rwa [List.take_append_drop] at this
  · have hall : ∀ x, x ∈ out.take a → leB x b = true := by
      intro x hx
      rcases h2 with rfl | h2
      · simp at hx
      · obtain ⟨i, hi, e⟩ := List.getElem_of_mem hx
        rw [List.length_take] at hi
        rw [List.getElem_take] at e
        have hb : leB (nth out (a - 1)) b = true := by unfold leB; rw [h2]; rfl
        by_cases e2 : i = a - 1
        · rw [← e]; subst e2; rw [nth_get (by omega)] at hb; exact hb
        · have := List.pairwise_iff_getElem.1 hs i (a - 1) (by omega) (by omega) (by omega)
          rw [← e]; rw [nth_get (by omega)] at hb; exact le_trans' this hb
    have hdr : ∀ x, x ∈ out.drop a → leB b x = true := by
      intro x hx
      obtain ⟨i, hi, e⟩ := List.getElem_of_mem hx
      rw [List.length_drop] at hi
      rw [List.getElem_drop] at e
      have := h1 (a + i) (by omega) (by omega)
      rw [nth_get (by omega), e] at this
      exact bef_le this
    have htd : ∀ x, x ∈ out.take a → ∀ y, y ∈ out.drop a → leB x y = true := fun x hx y hy => le_trans' (hall x hx) (hdr y hy)
    rw [List.append_assoc, List.pairwise_append]
    refine ⟨hs.sublist (List.take_sublist _ _), ?_, ?_⟩
    · rw [List.singleton_append, List.pairwise_cons]
      exact ⟨hdr, hs.sublist (List.drop_sublist _ _)⟩
    · intro x hx y hy
      rw [List.singleton_append, List.mem_cons] at hy
      rcases hy with rfl | hy
      · exact hall x hx
      · exact htd x hx y hy
theorem freeB_iff {xs : List Blk} {b : Blk} : freeB xs b = true ↔ ∀ x, x ∈ xs → comI x b ≤ 1 := by
  unfold freeB
  simp only [decide_eq_true_eq]
  constructor
  · intro h x hx
    obtain ⟨k, hk, e⟩ := mem_nth hx
    rw [← e]; exact h k hk
  · intro h i hi; exact h _ (nth_mem hi)
theorem freeB_srt (ys : List Blk) (b : Blk) : freeB (srtL ys) b = freeB ys b := by
  rw [Bool.eq_iff_iff, freeB_iff, freeB_iff]
  exact ⟨fun h x hx => h x ((srt_perm ys).mem_iff.2 hx), fun h x hx => h x ((srt_perm ys).mem_iff.1 hx)⟩
theorem left_free {bs : List Blk} {b : Blk} (hg : ∀ j, j < bs.length → goodB 15 (nth bs j) = true) (hb : goodB 15 b = true) : leftB (gridN bs bs.length) b = freeB bs b := by
  rw [Bool.eq_iff_iff, left_iff hg hb, freeB_iff]
  constructor
  · intro h x hx
    obtain ⟨k, hk, e⟩ := mem_nth hx
    rw [← e, comI_symm]; exact h k hk
  · intro h j hj; rw [comI_symm]; exact h _ (nth_mem hj)
theorem gridN_app (bs cs : List Blk) : ∀ k, k ≤ bs.length → gridN (bs ++ cs) k = gridN bs k := by
  intro k
  induction k with
  | zero => intro _; rfl
  | succ k ih => intro h; rw [gridN, gridN, ih (by omega), nth_app (by omega)]
theorem gridN_snoc (bs : List Blk) (b : Blk) : gridN (bs ++ [b]) (bs ++ [b]).length = putG (gridN bs bs.length) b true := by
  rw [List.length_append, List.length_singleton, gridN, gridN_app bs [b] _ (Nat.le_refl _), nth_last]
/-- blocks put in one after another where they are free -/
noncomputable def fillK (xs T : List Blk) : Nat → List Blk
  | 0 => xs
  | k + 1 => if freeB (fillK xs T k) (nth T k) = true then fillK xs T k ++ [nth T k] else fillK xs T k
theorem fillK_len (xs T : List Blk) : ∀ k, (fillK xs T k).length ≤ xs.length + k := by
  intro k
  induction k with
  | zero => exact Nat.le_refl _
  | succ k ih =>
    rw [fillK]; split
    · rw [List.length_append, List.length_singleton]; omega
    · omega
theorem fillK_good {xs T : List Blk} (hx : ∀ j, j < xs.length → goodB 15 (nth xs j) = true) (hT : ∀ j, j < T.length → goodB 15 (nth T j) = true) : ∀ k, k ≤ T.length → ∀ j, j < (fillK xs T k).length → goodB 15 (nth (fillK xs T k) j) = true := by
  intro k
  induction k with
  | zero => intro _; exact hx
  | succ k ih =>
    intro hk j hj
    rw [fillK] at hj ⊢
    split at hj
    · rename_i h
      rw [if_pos h]
      by_cases e : j < (fillK xs T k).length
      · rw [nth_app e]; exact ih (by omega) j e
      · rw [List.length_append, List.length_singleton] at hj
        obtain rfl : j = (fillK xs T k).length := by omega
        rw [nth_last]; exact hT k (by omega)
    · rename_i h
      rw [if_neg h]
      exact ih (by omega) j hj
theorem triL_good {p : Blk → Bool} {n : Nat} {b : Blk} (h : b ∈ triL p n) : goodB n b = true := by
  have hc : ∀ a b m x, m ≤ n → a < b → x ∈ csT p a b m → goodB n x = true := by
    intro a b m x hm hab
    induction m with
    | zero => intro h; simp [csT] at h
    | succ m ih =>
      intro h
      rw [csT, List.mem_append] at h
      rcases h with h | h
      · exact ih (by omega) h
      · split at h
        · rename_i h2
          rw [List.mem_singleton] at h; subst h
          unfold goodB; simp; omega
        · simp at h
  have hb : ∀ a m x, m ≤ n → x ∈ bsT p n a m → goodB n x = true := by
    intro a m x hm
    induction m with
    | zero => intro h; simp [bsT] at h
    | succ m ih =>
      intro h
      rw [bsT, List.mem_append] at h
      rcases h with h | h
      · exact ih (by omega) h
      · split at h
        · rename_i h2; exact hc a m n x (Nat.le_refl _) h2 h
        · simp at h
  have ha : ∀ m x, m ≤ n → x ∈ asT p n m → goodB n x = true := by
    intro m x hm
    induction m with
    | zero => intro h; simp [asT] at h
    | succ m ih =>
      intro h
      rw [asT, List.mem_append] at h
      rcases h with h | h
      · exact ih (by omega) h
      · exact hb m n x (Nat.le_refl _) h
  exact ha n b (Nat.le_refl _) h

end Go.Proofs.Ytbknpflbafjblaa

/- The library's sort of blocks by the program's order: laid, and the program's lists of blocks in order; conditions: stated in each. -/
namespace Go.Proofs.Ytbknpflbafjblaa
open Go.Shelf Go.RowKit Go.Sort
set_option maxHeartbeats 1000000
set_option maxRecDepth 100000
set_option linter.unusedSimpArgs false
set_option linter.unusedVariables false

def Try.sortB_ren : Go.Shelf.Ren := ⟨fun | 6 => 170 | 15 => 180 | 14 => 179 | 28 => 191 | 29 => 192 | 20 => 183 | 21 => 184 | 22 => 185 | 23 => 186 | 24 => 187 | 25 => 188 | 26 => 189 | 27 => 190 | 46 => 193 | 47 => 194 | 48 => 195 | 49 => 196 | 50 => 197 | 57 => 198 | n => n, fun | 22 => 28 | 24 => 99 | 25 => 170 | 3 => 3 | 39 => 75 | 0 => 0 | 53 => 159 | 55 => 130 | 4 => 4 | 46 => 186 | 45 => 185 | 50 => 190 | 5 => 5 | 9 => 9 | 66 => 192 | 70 => 196 | 76 => 198 | 77 => 199 | n => n, fun | n => n⟩
theorem Try.sortB : Go.Proofs.SlLaysF0.n6 Try.prog Try.sortB_ren := {
  mixed := by kernel_rfl
  f6 := ⟨Try.f170.name, by decide, Try.func170.trans (congrArg some (by kernel_rfl))⟩
  f14 := ⟨Try.f179.name, by decide, Try.func179.trans (congrArg some (by kernel_rfl))⟩
  f15 := Try.func180.trans (congrArg some (by kernel_rfl))
  f20 := ⟨Try.f183.name, by decide, Try.func183.trans (congrArg some (by kernel_rfl))⟩
  f21 := ⟨Try.f184.name, by decide, Try.func184.trans (congrArg some (by kernel_rfl))⟩
  f22 := ⟨Try.f185.name, by decide, Try.func185.trans (congrArg some (by kernel_rfl))⟩
  f23 := ⟨Try.f186.name, by decide, Try.func186.trans (congrArg some (by kernel_rfl))⟩
  f24 := ⟨Try.f187.name, by decide, Try.func187.trans (congrArg some (by kernel_rfl))⟩
  f25 := ⟨Try.f188.name, by decide, Try.func188.trans (congrArg some (by kernel_rfl))⟩
  f26 := ⟨Try.f189.name, by decide, Try.func189.trans (congrArg some (by kernel_rfl))⟩
  f27 := ⟨Try.f190.name, by decide, Try.func190.trans (congrArg some (by kernel_rfl))⟩
  f28 := Try.func191.trans (congrArg some (by kernel_rfl))
  f29 := Try.func192.trans (congrArg some (by kernel_rfl))
  f46 := ⟨Try.f193.name, by decide, Try.func193.trans (congrArg some (by kernel_rfl))⟩
  f47 := Try.func194.trans (congrArg some (by kernel_rfl))
  f48 := Try.func195.trans (congrArg some (by kernel_rfl))
  f49 := ⟨Try.f196.name, by decide, Try.func196.trans (congrArg some (by kernel_rfl))⟩
  f50 := ⟨Try.f197.name, by decide, Try.func197.trans (congrArg some (by kernel_rfl))⟩
  f57 := ⟨Try.f198.name, by decide, Try.func198.trans (congrArg some (by kernel_rfl))⟩
  t0 := Try.underlying0
  a0 := Try.isAgg0
  z0 := Try.sizeOf0
  v0 := Try.zeroValue0
  t3 := Try.underlying3
  a3 := Try.isAgg3
  z3 := Try.sizeOf3
  v3 := Try.zeroValue3
  t4 := Try.underlying4
  a4 := Try.isAgg4
  z4 := Try.sizeOf4
  v4 := Try.zeroValue4
  t5 := Try.underlying5
  a5 := Try.isAgg5
  z5 := Try.sizeOf5
  v5 := Try.zeroValue5
  t9 := Try.underlying9
  a9 := Try.isAgg9
  z9 := Try.sizeOf9
  v9 := Try.zeroValue9
  t22 := Try.underlying28
  a22 := Try.isAgg28
  z22 := Try.sizeOf28
  v22 := Try.zeroValue28
  t25 := Try.underlying170
  a25 := Try.isAgg170
  z25 := Try.sizeOf170
  v25 := Try.zeroValue170
  t39 := Try.underlying75
  a39 := Try.isAgg75
  z39 := Try.sizeOf75
  v39 := Try.zeroValue75
  t45 := Try.underlying185
  a45 := Try.isAgg185
  z45 := Try.sizeOf185
  v45 := Try.zeroValue185
  t46 := Try.underlying186
  a46 := Try.isAgg186
  z46 := Try.sizeOf186
  v46 := Try.zeroValue186
  t50 := Try.underlying190
  a50 := Try.isAgg190
  z50 := Try.sizeOf190
  v50 := Try.zeroValue190
  t53 := Try.underlying159
  a53 := Try.isAgg159
  z53 := Try.sizeOf159
  v53 := Try.zeroValue159
  t55 := Try.underlying130
  a55 := Try.isAgg130
  z55 := Try.sizeOf130
  v55 := Try.zeroValue130
  t66 := Try.underlying192
  a66 := Try.isAgg192
  z66 := Try.sizeOf192
  v66 := Try.zeroValue192
  t70 := Try.underlying196
  a70 := Try.isAgg196
  z70 := Try.sizeOf196
  v70 := Try.zeroValue196
  t76 := Try.underlying198
  a76 := Try.isAgg198
  z76 := Try.sizeOf198
  v76 := Try.zeroValue198
  t77 := Try.underlying199
  a77 := Try.isAgg199
  z77 := Try.sizeOf199
  v77 := Try.zeroValue199 }

def encB (b : Blk) : List Value := [.int .i64 b.1, .int .i64 b.2.1, .int .i64 b.2.2]
theorem ltB_is (x y : Blk) : ltOf cmpB x y = befB x y := by
  unfold ltOf
  have := cmpB_bef x y
  rw [Bool.eq_iff_iff]
  cases h : befB x y
  · rw [h] at this; simp at this; simp; omega
  · rw [h] at this; simp at this; simp; omega
theorem swoB : Go.Sort.SWO (ltOf cmpB) where
  irrefl x := by rw [ltB_is]; exact bef_irr x
  trans x y z h1 h2 := by rw [ltB_is] at *; exact bef_tr h1 h2
  ntrans x y z h1 h2 := by rw [ltB_is] at *; unfold befB at *; simp only [decide_eq_false_iff_not] at *; omega
theorem quiet_same {P : Program} {f : FuncId} {args : Array Value} {w : World} {n : Nat} {v : Value}
    (h : Calls P f args (w.drewN n) fun e w' => e = .returned v ∧ w.drewN n = w') : Calls P f args (w.drewN n) fun e w'' => e = .returned v ∧ ∃ m, w'' = w.drewN m :=
  h.mono fun _ _ ⟨he, hm⟩ => ⟨he, n, hm.symm⟩
theorem compareLays_any (a b : Blk) (w : World) :
    Calls Try.prog 152 #[.agg #[.int .i64 a.1, .int .i64 a.2.1, .int .i64 a.2.2], .agg #[.int .i64 b.1, .int .i64 b.2.1, .int .i64 b.2.2]] w fun e w' => e = .returned (.int .i64 (cmpB a b)) ∧ ∃ q os', w' = Go.Sort.grow (w.drewN q) os' := by
  go_enter Try.func152, Try.ntmps152
  go_wp2
  have hA0 := (Box.new w a 99).below (below_alloc _ (.cells #[.int .i64 b.1, .int .i64 b.2.1, .int .i64 b.2.2] 99))
  have hB0 := Box.new (w.alloc (.cells #[.int .i64 a.1, .int .i64 a.2.1, .int .i64 a.2.2] 99)) b 99
  have HGW : Hid (∀ nq, ∃ q os', ((w.alloc (.cells #[.int .i64 a.1, .int .i64 a.2.1, .int .i64 a.2.2] 99)).alloc (.cells #[.int .i64 b.1, .int .i64 b.2.1, .int .i64 b.2.2] 99)).drewN nq = Go.Sort.grow (w.drewN q) os') := fun nq => ⟨nq, _, by rw [Go.Sort.alloc_eq_grow, Go.Sort.alloc_eq_grow, Go.Sort.grow_grow]; rfl⟩
  rw [World.size_alloc] at hB0
  generalize (w.alloc _).alloc _ = W at *
  have HA := Lib.hid hA0; have HB := Lib.hid hB0; clear hA0 hB0
  go_quiet ((go_at_call 135; exact quiet_same (slicesCompare_any (some ⟨w.heap.size, 0, none⟩) (some ⟨w.heap.size + 1, 0, none⟩) 3 3 (lst a) (lst b) _ (HA.out.below (below_drewN (Below.refl _ _) _)).il (HB.out.below (below_drewN (Below.refl _ _) _)).il (by simp [lst]) (by simp [lst]))))
  go_wp2
  go_ret
  exact ⟨rfl, HGW.out nq⟩

theorem cells3'_len (xs : List Blk) : (cells3' xs).length = xs.length * 3 := by
  induction xs with
  | nil => rfl
  | cons b xs ih => simp [cells3'] at *; omega
theorem cells3_get : ∀ (xs : List Blk) (j : Nat), j < xs.length * 3 → (cells3' xs)[j]? = some ((encB (nth xs (j / 3)))[j % 3]!) := by
  intro xs
  induction xs with
  | nil => intro j h; simp at h
  | cons b xs ih =>
    intro j h
    have e : cells3' (b :: xs) = encB b ++ cells3' xs := by simp [cells3', encB]
    rw [e]
    by_cases hj : j < 3
    · rw [List.getElem?_append_left (by simpa [encB] using hj)]
      have h1 : j / 3 = 0 := by omega
      have h2 : j % 3 = j := by omega
      rw [h1, h2]
      obtain rfl | rfl | rfl : j = 0 ∨ j = 1 ∨ j = 2 := by omega
      all_goals rfl
    · have hl : (encB b).length = 3 := rfl
      rw [List.getElem?_append_right (by omega), hl, ih (j - 3) (by simp at h; omega)]
      have h1 : j / 3 = (j - 3) / 3 + 1 := by omega
      have h2 : (j - 3) % 3 = j % 3 := by omega
      rw [h1, h2]
      rfl
theorem flat_get (xs : List Blk) {j : Nat} (h : j < xs.length * 3) : (flatK encB 3 xs.toArray)[j]! = (encB (nth xs (j / 3)))[j % 3]! := by
  rw [get_flatK _ _ _ _ (by simpa using h)]
  have : xs.toArray[j / 3]! = nth xs (j / 3) := by
    have h3 : j / 3 < xs.length := by omega
    rw [getElem!_pos _ _ (by simpa using h3), nth_get h3]; simp
  rw [this]
theorem holds_of {w : World} {g cap : Nat} {xs : List Blk} {cur : Array Value} (hg : w.heap[g]? = some (.cells cur 99 (0, 0))) (htk : cur.toList.take (xs.length * 3) = cells3' xs) : HoldsK encB 3 w g 0 xs.toArray := by
  intro j hj
  have hj2 : j < xs.length * 3 := by simpa using hj
  refine ⟨?_, Row.frozen (w := w) (g := g) (t := 99) (cur := cur) hg _⟩
  rw [Nat.zero_add, Row.cell (w := w) (g := g) (t := 99) (cur := cur) hg, flat_get xs hj2]
  have := cells3_get xs j hj2
  rw [← htk, List.getElem?_take_of_lt hj2, Array.getElem?_toList] at this
  exact this
theorem put_own {w : World} {base g cap n m : Nat} {xs ys : List Blk} {cur : Array Value} {os : Array Obj} (hb : base ≤ g) (hg : w.heap[g]? = some (.cells cur 99 (0, 0))) (hnc : n ≤ cap) (hcm : cap ≤ maxLen) (hcs : cur.size = cap * 3) (hn : ys.length = n) :
    OB (sortWorldK encB 3 w g 0 m ys.toArray os) base (.slice (some ⟨g, 0, none⟩) n cap) ys ∧ w.grownBy (sortWorldK encB 3 w g 0 m ys.toArray os) (some g) := by
  have hlt : g < w.heap.size := Row.lt (w := w) (t := 99) (cur := cur) hg
  have hheap : (sortWorldK encB 3 w g 0 m ys.toArray os).heap = w.heap.modify g (onCells (putCells id 0 (flatK encB 3 ys.toArray))) ++ os := rfl
  have hat : ∀ k, k < w.heap.size → (sortWorldK encB 3 w g 0 m ys.toArray os).heap[k]? = (w.heap.modify g (onCells (putCells id 0 (flatK encB 3 ys.toArray))))[k]? := by
    intro k hk
    rw [hheap, Array.getElem?_append_left (by simpa using hk)]
  refine ⟨⟨by rw [cells3'_len], .inr ⟨g, cap, putCells id 0 (flatK encB 3 ys.toArray) cur, by rw [hn], hb, ?_, by omega, hcm, by simp [putCells, hcs], ?_⟩⟩, ?_⟩
  · rw [hat g hlt, Array.getElem?_modify, if_pos rfl, hg]; rfl
  · apply List.ext_getElem?
    intro j
    by_cases hj : j < ys.length * 3
    · rw [List.getElem?_take_of_lt hj, Array.getElem?_toList, cells3_get ys j hj]
      have hjs : j < cur.size := by
        rw [hcs]; have : ys.length * 3 ≤ cap * 3 := Nat.mul_le_mul_right 3 (by omega)
        omega
      have h1 : (0 ≤ j ∧ j < 0 + (flatK encB 3 ys.toArray).size) := ⟨Nat.zero_le _, by simpa using hj⟩
      simp only [putCells, Array.getElem?_mapIdx, Array.getElem?_eq_getElem hjs, Option.map_some, if_pos h1, id, Nat.sub_zero, flat_get ys hj]
    · rw [List.getElem?_eq_none (by rw [List.length_take]; omega), List.getElem?_eq_none (by rw [cells3'_len]; omega)]
  · refine ⟨rfl, rfl, rfl, ?_, fun k hk hne => ?_⟩
    · rw [hheap]; simp
    · rw [hat k hk, Array.getElem?_modify, if_neg (fun e => hne (by rw [e]))]

theorem sortFunc_any (u : Value) (base : Nat) (xs : List Blk) (w : World) (hO : OB w base u xs) (hl : xs.length ≤ 1048576) :
    Calls Try.prog 170 #[u, .func (.func 152) #[] #[]] w fun e w' => e = .returned (.tuple #[]) ∧ OB w' base u (srtL xs) ∧ w.grownBy w' u.ownBlock := by
  by_cases h0 : xs = []
  · subst h0
    obtain ⟨A, c, rfl⟩ := own_slice hO
    have h := AnyF.slices_SortFunc_none (P := Try.prog) (ρ := Try.sortB_ren) { Try.sortB with } A c (.func (.func 152) #[] #[]) w
    change Calls Try.prog 170 _ _ _ at h
    refine h.mono ?_
    rintro e w' ⟨rfl, rfl⟩
    refine ⟨rfl, ?_, grown_refl _ _⟩
    have : srtL [] = [] := srt_self List.Pairwise.nil
    rw [this]; exact hO
  · obtain ⟨hcl, hr⟩ := hO
    rcases hr with ⟨_, hn⟩ | ⟨g, cap, cur, hv, hge, hg, hnc, hcm, hcs, htk⟩
    · exact absurd (List.eq_nil_of_length_eq_zero hn) h0
    · subst hv
      have eg : ∀ args w, (callFunc 152 args).run Try.prog w = .ok (.enter 152 args) w := fun args w => by kernel_rfl
      have hH := holds_of (cap := cap) hg htk
      have h := AnyQ.slices_SortFunc_total Try.sortB 3 Try.isAgg99 Try.sizeOf99 encB (fun _ => rfl) (fun x v hv => by simp [encB] at hv; rcases hv with rfl | rfl | rfl <;> rfl) cmpB swoB 152 #[] g 0 cap xs.toArray w eg
        (fun m os dk _ x y => compareLays_any x y _) hH (Row.lt (w := w) (t := 99) (cur := cur) hg) (by simp; omega) (fun x y h1 h2 => by rw [ltB_is] at h1 h2; exact bef_tri h1 h2)
      change Calls Try.prog 170 _ _ _ at h
      have hle : (fun x y => !(ltOf cmpB) y x) = leB := by funext x y; rw [ltB_is]; rfl
      rw [hle] at h
      have hsz : xs.toArray.size = xs.length := by simp
      rw [hsz] at h
      refine h.mono ?_
      rintro e w' ⟨rfl, m, os, rfl⟩
      obtain ⟨h1, h2⟩ := put_own (w := w) (base := base) (g := g) (cap := cap) (n := xs.length) (m := m) (xs := xs) (ys := srtL xs) (cur := cur) (os := os) hge hg hnc hcm hcs (srt_len xs)
      refine ⟨rfl, ?_, h2⟩
      have h3 := h1
      unfold OB at h3 ⊢
      rw [srt_len] at h3 ⊢
      exact h3
end Go.Proofs.Ytbknpflbafjblaa

/- Contracts of blocks in order: of the program's sorted lists and of the reference's; conditions: stated in each. -/
namespace Go.Proofs.Ytbknpflbafjblaa
open Go.RowKit
set_option maxHeartbeats 1000000
set_option maxRecDepth 100000
set_option linter.unusedSimpArgs false
set_option linter.unusedVariables false

@[go_sem] theorem eq_nil_blks (a : Option Addr) (l c : Nat) (w : World) : (binOp .eql 28 (.slice a l c) (.slice none 0 0)).run Try.prog w = .ok (.bool a.isNone) w := by
  have := run_equal_slice_nil (P := Try.prog) w 28 99 a l c Try.underlying28
  simp [binOp, this]
theorem Bl.cells {w : World} {g o : Nat} {xs : List Blk} (h : Bl w (some ⟨g, o, none⟩) xs) : ∀ j u, (cells3' xs)[j]? = some u → w.cell? ((⟨g, o, none⟩ : Addr).add j) = some u := by
  intro j u hj
  have hlt : j < xs.length * 3 := by
    rcases Nat.lt_or_ge j (xs.length * 3) with h | h
    · exact h
    · rw [List.getElem?_eq_none (by rw [cells3'_len]; exact h)] at hj; cases hj
  rw [cells3_get xs j hlt] at hj
  obtain ⟨b1, o1, hA, _, p0, p1, p2⟩ := h.at_ (k := j / 3) (by omega)
  simp only [Option.some.injEq, Addr.mk.injEq, and_true] at hA
  obtain ⟨rfl, rfl⟩ := hA
  have e : ((⟨g, o, none⟩ : Addr).add j) = ⟨g, o + j, none⟩ := by unfold Addr.add; split <;> simp_all
  rw [e, ← hj]
  have hm : j % 3 = 0 ∨ j % 3 = 1 ∨ j % 3 = 2 := by omega
  rcases hm with hm | hm | hm
  · have : o + j = o + j / 3 * 3 := by omega
    rw [this, p0, hm]; rfl
  · have : o + j = o + j / 3 * 3 + 1 := by omega
    rw [this, p1, hm]; rfl
  · have : o + j = o + j / 3 * 3 + 2 := by omega
    rw [this, p2, hm]; rfl
theorem OB.nilv (w : World) (base : Nat) : OB w base (.slice none 0 0) [] := World.ownsRow_nil _ _ _ _
theorem cells3_one {xs : List Blk} : ∀ v ∈ cells3' xs, v.oneCell' = true := by
  intro v hv
  unfold cells3' at hv
  rw [List.mem_flatMap] at hv
  obtain ⟨b, _, hb⟩ := hv
  simp at hb
  rcases hb with rfl | rfl | rfl <;> rfl

theorem cloneB_any (A : Option Addr) (c : Nat) (xs : List Blk) (w : World) (hA : Bl w A xs) (hl : xs.length ≤ 1048576) :
    Calls Try.prog 96 #[.slice A xs.length c] w fun e w' => ∃ u, e = .returned u ∧ OB w' w.heap.size u xs ∧ Below w.heap.size w w' := by
  obtain ⟨bi0, hbi, hbi0, hbi1, hbi2⟩ := info_parts infoBlk'
  have HE : Hid (OB (w.alloc (.cells #[] 99)) w.heap.size (.slice (some ⟨w.heap.size, 0, none⟩) 0 0) []) := own_empty _ _ _
  have HB := Lib.hid (below_alloc w (.cells #[] 99))
  have hc3 := cells3'_len xs
  have HAC := Lib.hid (hA.below HB.out)
  cases A with
  | none =>
    have h0 : xs = [] := by
      rcases hA with h | ⟨b, o, h, _⟩
      · exact h
      · cases h
    subst h0
    clear hA
    go_enter Try.func96, Try.ntmps96
    go_wp2
    go_ret
    exact ⟨_, rfl, OB.nilv _ _, Below.refl _ _⟩
  | some ad =>
    by_cases h0 : xs = []
    · subst h0
      clear hA
      go_enter Try.func96, Try.ntmps96
      go_wp2_with (at_builtin; refine wpList_append_own_none rfl _ _ 28 rfl w.heap.size 99 bi0 3 (by rfl) hbi _ 0 [] rfl HE.out rfl ?_)
      go_ret
      exact ⟨_, rfl, HE.out, HB.out⟩
    · have hp : 0 < xs.length := List.length_pos_iff.2 h0
      obtain ⟨g, o, hA1, hgl, _⟩ := hA.at_ hp
      simp only [Option.some.injEq] at hA1
      subst hA1
      clear hA
      go_enter Try.func96, Try.ntmps96
      go_wp2_with (at_builtin; refine wpList_append_own _ rfl _ _ 28 rfl w.heap.size 99 bi0 (.agg #[.int .i64 0, .int .i64 0, .int .i64 0]) 3 24 Try.underlying28 hbi hbi0 hbi1 hbi2 rfl (by decide) _ _ _ rfl HE.out ⟨g, o, none⟩ xs.length c (cells3' xs) rfl hc3 (Bl.cells HAC.out) cells3_one (by unfold maxLen; simp; omega) (by simp; omega) (by simp) ?_; intro v2 w2 hown2 hg2 _)
      have HO : Hid (OB w2 w.heap.size v2 xs) := by unfold Hid OB; simpa [cells3'] using hown2
      have HB2 : Hid (Below w.heap.size w w2) := HB.out.grown hg2 HB.out.size (own_block HE.out)
      clear hown2 hg2
      go_ret
      exact ⟨_, rfl, HO.out, HB2.out⟩
theorem OB.bl {w : World} {base : Nat} {A : Option Addr} {n c : Nat} {xs : List Blk} (h : OB w base (.slice A n c) xs) : Bl w A xs := by
  rcases h.2 with ⟨hv, hn⟩ | ⟨g, cap, cur, hv, hb, hg, hnc, _, hcs, htk⟩
  · exact .inl (List.eq_nil_of_length_eq_zero hn)
  · simp only [Value.slice.injEq] at hv
    obtain ⟨rfl, -, -⟩ := hv
    have key : ∀ j, j < xs.length * 3 → w.cell? ⟨g, j, none⟩ = some ((encB (nth xs (j / 3)))[j % 3]!) := by
      intro j hj
      have h3 := cells3_get xs j hj
      rw [← htk, List.getElem?_take_of_lt hj, Array.getElem?_toList] at h3
      rw [Row.cell (w := w) (t := 99) (cur := cur) hg]; exact h3
    refine .inr ⟨g, 0, rfl, Row.lt (w := w) (t := 99) (cur := cur) hg, fun k hk => ?_⟩
    simp only [Nat.zero_add]
    refine ⟨?_, ?_, ?_⟩
    · have := key (k * 3) (by omega)
      have e1 : k * 3 / 3 = k := by omega
      have e2 : k * 3 % 3 = 0 := by omega
      rw [e1, e2] at this; exact this
    · have := key (k * 3 + 1) (by omega)
      have e1 : (k * 3 + 1) / 3 = k := by omega
      have e2 : (k * 3 + 1) % 3 = 1 := by omega
      rw [e1, e2] at this; exact this
    · have := key (k * 3 + 2) (by omega)
      have e1 : (k * 3 + 2) / 3 = k := by omega
      have e2 : (k * 3 + 2) % 3 = 2 := by omega
      rw [e1, e2] at this; exact this

theorem sorted_any (A : Option Addr) (c : Nat) (xs : List Blk) (w : World) (hA : Bl w A xs) (hl : xs.length ≤ 1048576) :
    Calls Try.prog 145 #[.slice A xs.length c] w fun e w' => ∃ u, e = .returned u ∧ OB w' w.heap.size u (srtL xs) ∧ Below w.heap.size w w' := by
  have HA := Lib.hid hA; clear hA
  go_enter Try.func145, Try.ntmps145
  go_wp2_with fail
  refine (cloneB_any A c xs _ HA.out hl).mono ?_
  rintro e w1 ⟨u, rfl, hO, hb⟩
  have HO := Lib.hid hO; have HB := Lib.hid hb; clear hO hb
  go_wp2_with fail
  refine (sortFunc_any u w.heap.size xs _ HO.out hl).mono ?_
  rintro e w2 ⟨rfl, hO, hg⟩
  have HO2 := Lib.hid hO
  have HB2 : Hid (Below w.heap.size w w2) := HB.out.grown hg HB.out.size (own_block HO.out)
  clear hO hg
  go_wp2
  go_ret
  exact ⟨_, rfl, HO2.out, HB2.out⟩

/-- a system returned: its blocks a row of the call's own -/
theorem system_any (v : Int) (A : Option Addr) (c : Nat) (xs : List Blk) (w : World) (hA : Bl w A xs) (hl : xs.length ≤ 1048576) :
    Calls Try.prog 100 #[.int .i64 v, .slice A xs.length c] w fun e w' => ∃ u, e = .returned (.agg #[.int .i64 v, u]) ∧ OB w' w.heap.size u (srtL xs) ∧ Below w.heap.size w w' := by
  have HB0 := Lib.hid (below_alloc w (.cells #[.int .i64 0, .slice none 0 0] 30))
  have HR := Lib.hid (Row.new w 30 #[.int .i64 0, .slice none 0 0])
  have HA := Lib.hid (hA.below HB0.out); clear hA
  have HSZ : Hid ((w.alloc (.cells #[.int .i64 0, .slice none 0 0] 30)).heap.size = w.heap.size + 1) := World.size_alloc _ _
  go_enter Try.func100, Try.ntmps100
  go_wp2_with fail
  refine (sorted_any A c xs _ HA.out hl).mono ?_
  rintro e w1 ⟨u, rfl, hO, hb⟩
  obtain ⟨B, d, rfl⟩ := own_slice hO
  have HO := Lib.hid hO
  have HB1 := Lib.hid (HB0.out.trans (hb.mono HB0.out.size))
  have hR := HR.out.below hb
  obtain ⟨c0, c1⟩ := hR.c2
  have f0 := hR.frozen 0
  have f1 := hR.frozen 1
  have hlt := hR.lt
  have k0 : (w1.setCell ⟨w.heap.size, 0, none⟩ (.int .i64 v)).cell? ⟨w.heap.size, 0, none⟩ = some (.int .i64 v) := (hR.set 0 _).cell 0
  have k1 : ((w1.setCell ⟨w.heap.size, 0, none⟩ (.int .i64 v)).setCell ⟨w.heap.size, 1, none⟩ (.slice B (srtL xs).length d)).cell? ⟨w.heap.size, 1, none⟩ = some (.slice B (srtL xs).length d) := ((hR.set 0 _).set 1 _).cell 1
  have HOK : Hid (∀ X Y : Value, OB ((w1.setCell ⟨w.heap.size, 0, none⟩ X).setCell ⟨w.heap.size, 1, none⟩ Y) w.heap.size (.slice B (srtL xs).length d) (srtL xs)) := by
    intro X Y
    refine OB.base (base := (w.alloc (.cells #[.int .i64 0, .slice none 0 0] 30)).heap.size) ?_ (by have := HSZ.out; omega)
    refine World.ownsRow.kept hO (grown_set (grown_set (grown_refl w1 (some w.heap.size)) 0 X) 1 Y) ?_
    cases B with
    | none => exact .inl rfl
    | some ad =>
      right
      intro e
      have := (hO.lt ad.block rfl).1
      have := HSZ.out
      simp [Value.ownBlock] at e
      omega
  have HBB : Hid (∀ X Y : Value, Below w.heap.size w ((w1.setCell ⟨w.heap.size, 0, none⟩ X).setCell ⟨w.heap.size, 1, none⟩ Y)) := fun X Y => (HB1.out.setCell (Nat.le_refl _) _).setCell (Nat.le_refl _) _
  clear hO hb hR
  go_wp2
  (try simp only [Exit.inBlock, Exit.then])
  refine bodyPost_ret (by simp [results, Try.results100, go_sem, k0, k1]; try rfl) rfl ?_
  exact ⟨_, rfl, HOK.out _ _, HBB.out _ _⟩

theorem cells3_set : ∀ (xs : List Blk) (k : Nat) (b : Blk), k < xs.length → cells3' (xs.set k b) = (((cells3' xs).set (k * 3) (.int .i64 b.1)).set (k * 3 + 1) (.int .i64 b.2.1)).set (k * 3 + 2) (.int .i64 b.2.2) := by
  intro xs
  induction xs with
  | nil => intro k b h; simp at h
  | cons x xs ih =>
    intro k b h
    cases k with
    | zero => rfl
    | succ k =>
      have e : ∀ (y : Blk) (ys : List Blk), cells3' (y :: ys) = .int .i64 y.1 :: .int .i64 y.2.1 :: .int .i64 y.2.2 :: cells3' ys := fun y ys => by simp [cells3']
      rw [List.set_cons_succ, e, e, ih k b (by simpa using h)]
      have h1 : (k + 1) * 3 = k * 3 + 1 + 1 + 1 := by omega
      rw [h1]
      have h2 : k * 3 + 1 + 1 + 1 + 1 = (k * 3 + 1) + 1 + 1 + 1 := rfl
      have h3 : k * 3 + 1 + 1 + 1 + 2 = (k * 3 + 2) + 1 + 1 + 1 := rfl
      rw [h2, h3]
      rfl
theorem OB.set {w : World} {base g n c k : Nat} {xs : List Blk} (h : OB w base (.slice (some ⟨g, 0, none⟩) n c) xs) (b : Blk) (hk : k < xs.length) :
    OB (((w.setCell ⟨g, k * 3, none⟩ (.int .i64 b.1)).setCell ⟨g, k * 3 + 1, none⟩ (.int .i64 b.2.1)).setCell ⟨g, k * 3 + 2, none⟩ (.int .i64 b.2.2)) base (.slice (some ⟨g, 0, none⟩) n c) (xs.set k b) := by
  obtain ⟨A, d, e⟩ := own_slice h
  simp only [Value.slice.injEq] at e
  obtain ⟨-, rfl, -⟩ := e
  unfold OB at h ⊢
  rw [cells3_set xs k b hk, List.length_set]
  exact (World.ownsRow.stored (World.ownsRow.stored (World.ownsRow.stored h (k * 3) (.int .i64 b.1)).1 (k * 3 + 1) (.int .i64 b.2.1)).1 (k * 3 + 2) (.int .i64 b.2.2)).1
theorem OB.form {w : World} {base : Nat} {u : Value} {xs : List Blk} (h : OB w base u xs) (hm : 0 < xs.length) : ∃ g c, u = .slice (some ⟨g, 0, none⟩) xs.length c ∧ base ≤ g ∧ g < w.heap.size := by
  rcases h.2 with ⟨_, h0⟩ | ⟨g, cap, cur, hv, hb, hg, _⟩
  · omega
  · exact ⟨g, cap, hv, hb, Row.lt (w := w) (t := 99) (cur := cur) hg⟩
theorem OB.frozen {w : World} {base g n c : Nat} {xs : List Blk} (h : OB w base (.slice (some ⟨g, 0, none⟩) n c) xs) (i : Nat) : w.frozen? ⟨g, i, none⟩ = false := by
  obtain ⟨A, d, e⟩ := own_slice h
  simp only [Value.slice.injEq] at e
  obtain ⟨-, rfl, -⟩ := e
  exact World.ownsRow.frozenAt h i

theorem set_mid {A B : List Blk} {j b : Blk} : (A ++ [j] ++ B).set A.length b = A ++ [b] ++ B := by
  rw [List.append_assoc, List.set_append_right _ _ (Nat.le_refl _), Nat.sub_self]
  simp
theorem mid_len {S : List Blk} {j : Blk} {t : Nat} : (S.take t ++ [j] ++ S.drop t).length = S.length + 1 := by
  rw [List.length_append, List.length_append, List.length_take, List.length_drop, List.length_singleton]; omega
theorem mid_nth {S : List Blk} {j : Blk} {t i : Nat} (ht : t ≤ S.length) (hi : i < t) : nth (S.take t ++ [j] ++ S.drop t) i = nth S i := by
  have hl : (S.take t).length = t := by rw [List.length_take]; omega
  rw [List.append_assoc, nth_app (by omega)]
  simp [nth, List.getElem?_take, hi]
theorem mid_back {S : List Blk} {j : Blk} {t : Nat} (ht : t ≤ S.length) (h0 : 0 < t) : (S.take t ++ [j] ++ S.drop t).set t (nth S (t - 1)) = S.take (t - 1) ++ [nth S (t - 1)] ++ S.drop (t - 1) := by
  have hl : (S.take t).length = t := by rw [List.length_take]; omega
  have h1 : (S.take t ++ [j] ++ S.drop t).set t (nth S (t - 1)) = S.take t ++ [nth S (t - 1)] ++ S.drop t := by
    have := set_mid (A := S.take t) (B := S.drop t) (j := j) (b := nth S (t - 1))
    rwa [hl] at this
  rw [h1]
  have h2 : S.take t = S.take (t - 1) ++ [nth S (t - 1)] := by
    have e : t = (t - 1) + 1 := by omega
    conv => lhs; rw [e]
    rw [List.take_add_one, nth_get (by omega)]
    simp [List.getElem?_eq_getElem (show t - 1 < S.length by omega)]
  have h3 : S.drop (t - 1) = nth S (t - 1) :: S.drop t := by
    rw [List.drop_eq_getElem_cons (by omega), nth_get (by omega)]
    have e : t - 1 + 1 = t := by omega
    rw [e]
  rw [h2, h3]
  simp
theorem mid_end {S : List Blk} {j b : Blk} {t : Nat} (ht : t ≤ S.length) : (S.take t ++ [j] ++ S.drop t).set t b = S.take t ++ [b] ++ S.drop t := by
  have hl : (S.take t).length = t := by rw [List.length_take]; omega
  have := set_mid (A := S.take t) (B := S.drop t) (j := j) (b := b)
  rwa [hl] at this
theorem take_next {xs : List Blk} {k : Nat} (h : k < xs.length) : xs.take (k + 1) = xs.take k ++ [nth xs k] := by
  rw [List.take_add_one, nth_get h]; simp [List.getElem?_eq_getElem h]

theorem l01Sort_any (A : Option Addr) (c : Nat) (xs : List Blk) (w : World) (hA : Bl w A xs) (hl : xs.length ≤ 1048576) :
    Calls Try.prog 142 #[.slice A xs.length c] w fun e w' => ∃ u, e = .returned u ∧ OB w' w.heap.size u (srtL xs) ∧ Below w.heap.size w w' := by
  obtain ⟨bi0, hbi, hbi0, hbi1, hbi2⟩ := info_parts infoBlk'
  have HE : Hid (OB (w.alloc (.cells #[] 99)) w.heap.size (.slice (some ⟨w.heap.size, 0, none⟩) 0 0) (srtL (xs.take 0))) := by
    have : srtL (xs.take 0) = [] := srt_self List.Pairwise.nil
    unfold Hid; rw [this]; exact own_empty _ _ _
  have HB0 := Lib.hid (below_alloc w (.cells #[] 99))
  have HA := Lib.hid hA; clear hA
  go_enter Try.func142, Try.ntmps142
  go_wp2
  go_loopw [3, 4] (fun u i wr => ∃ k : Nat, k ≤ xs.length ∧ i = .int .i64 k ∧ Hid (Below w.heap.size w wr ∧ OB wr w.heap.size u (srtL (xs.take k)))) (fun _ i _ => xs.length - (intOf i).toNat)
  case atStart => exact ⟨0, by omega, rfl, HB0.out, HE.out⟩
  case round =>
    obtain ⟨k, hk, rfl, HC⟩ := hrel
    have HSL : Hid ((srtL (xs.take k)).length = k) := by unfold Hid; rw [srt_len, List.length_take]; omega
    have HSS := Lib.hid (srt_sorted (xs.take k))
    have HNX : Hid (k < xs.length → srtL (srtL (xs.take k) ++ [nth xs k]) = srtL (xs.take (k + 1))) := fun h => by rw [srt_app, take_next h]
    generalize hS : srtL (xs.take k) = S at *
    have HSEQ : Hid (k = xs.length → S = srtL xs) := fun h => by rw [← hS, h, List.take_length]
    clear hS
    by_cases hlt : k < xs.length
    · obtain ⟨b1, o1, hA1, hb1, p0, p1, p2⟩ := (HA.out.below HC.out.1).at_ hlt
      subst hA1
      have HSN := Lib.hid (HNX.out hlt)
      generalize hxk : nth xs k = b at *
      have HXK := Lib.hid hxk
      clear hxk
      have hsl := HSL.out
      obtain ⟨A3, c3, hu3⟩ := own_slice HC.out.2
      subst hu3
      rw [hsl]
      have HO : Hid (wr.ownsRow w.heap.size 99 3 (.slice A3 S.length c3) S.length (cells3' S)) := HC.out.2
      have HBW := Lib.hid HC.out.1
      rw [hsl] at HO
      clear hsl
      have hbw_ := HBW.out.size; go_wp2_with (at_builtin; refine wpList_append_own _ rfl _ _ 28 rfl (w).heap.size 99 bi0 (.agg #[.int .i64 0, .int .i64 0, .int .i64 0]) 3 24 Try.underlying28 hbi hbi0 hbi1 hbi2 rfl (by decide) _ _ _ rfl (HO.out.alloc _) ⟨(wr).heap.size, 0, none⟩ 1 1 [.int .i64 (b.1), .int .i64 (b.2.1), .int .i64 (b.2.2)] rfl rfl (cells_new _ _ _) (by simp [Value.oneCell']) (by unfold maxLen; omega) (by omega) (by simp; omega) ?_; intro v2 w2 hown2 hg2 _); have HO2 := Lib.hid hown2; have HB3 : Hid (Below (w).heap.size (w) w2) := (HBW.out.alloc HBW.out.size _).grown hg2 (by simp; omega) (own_block HO.out); clear hown2 hg2 hbw_
      have HRN : Hid (OB w2 w.heap.size v2 (S ++ [b])) := OB.snoc (by have := HO2.out; rw [HSL.out]; exact this)
      obtain ⟨g, c2, hv2, hge, hglt⟩ := HRN.out.form (by simp)
      have hl1 : (S ++ [b]).length = k + 1 := by rw [List.length_append, HSL.out]; rfl
      rw [hl1] at hv2
      subst hv2
      have HGE : Hid (w.heap.size ≤ g) := hge
      have HB3' : Hid (Below w.heap.size w w2) := HB3.out
      have HST0 : Hid (OB w2 w.heap.size (.slice (some ⟨g, 0, none⟩) (k + 1) c2) (S.take k ++ [b] ++ S.drop k)) := by
        have h1 : S.take k = S := List.take_of_length_le (by rw [HSL.out]; omega)
        have h2 : S.drop k = [] := List.drop_of_length_le (by rw [HSL.out]; omega)
        unfold Hid; rw [h1, h2, List.append_nil]; exact HRN.out
      clear HRN HO2 HB3 HO HC HBW hl1 p0 p1 p2
      go_loopw [5] (fun a wq => ∃ (t : Nat) (j : Blk), t ≤ k ∧ a = .int .i64 t ∧ Hid (Below w.heap.size w wq ∧ OB wq w.heap.size (.slice (some ⟨g, 0, none⟩) (k + 1) c2) (S.take t ++ [j] ++ S.drop t) ∧ ∀ i, t ≤ i → i < k → befB b (nth S i) = true)) (fun a _ => (intOf a).toNat)
      case atStart => exact ⟨k, b, by omega, rfl, HB3'.out, HST0.out, fun i h1 h2 => by omega⟩
      case round =>
        obtain ⟨t, j, ht, rfl, HD⟩ := hrel
        obtain ⟨wq, rfl⟩ : ∃ wq : World, wq = wr := ⟨_, rfl⟩
        obtain ⟨b2, o2, hA2, hb2, p0, p1, p2⟩ := (HA.out.below HD.out.1).at_ hlt
        simp only [Option.some.injEq, Addr.mk.injEq] at hA2
        obtain ⟨rfl, rfl, -⟩ := hA2
        rw [HXK.out] at p0 p1 p2
        by_cases ht0 : 0 < t
        · obtain ⟨b4, o4, hA4, hb4, r0, r1, r2⟩ := HD.out.2.1.bl.at_ (k := t - 1) (by rw [mid_len, HSL.out]; omega)
          simp only [Option.some.injEq, Addr.mk.injEq] at hA4
          obtain ⟨rfl, rfl, -⟩ := hA4
          rw [Nat.zero_add] at r0 r1 r2
          have HMN : Hid (nth (S.take t ++ [j] ++ S.drop t) (t - 1) = nth S (t - 1)) := mid_nth (by rw [HSL.out]; omega) (by omega)
          rw [HMN.out] at r0 r1 r2
          cases hbf : befB b (nth S (t - 1))
          · have HSTP : Hid (t = 0 ∨ befB b (nth S (t - 1)) = false) := .inr hbf
            go_wp2
            refine wp_region_ge_lit (by kernel_rfl) (by kernel_rfl) ?_; (repeat (go_big_quiet_step ((go_at_call 105; exact ge_call (hbf ▸ l01Before_any b (nth S (t - 1)) _))))); refine wpQuiet_nil ?_
            rintro w3 ⟨x, rfl⟩
            have HOg := Lib.hid (HD.out.2.1.below (ge_below wq x))
            have HBg := Lib.hid (below_up HD.out.1 (ge_below wq x))
            obtain ⟨b3, o3, hA3, hb3, q0, q1, q2⟩ := HOg.out.bl.at_ (k := t) (by rw [mid_len, HSL.out]; omega)
            simp only [Option.some.injEq, Addr.mk.injEq] at hA3
            obtain ⟨rfl, rfl, -⟩ := hA3
            rw [Nat.zero_add] at q0 q1 q2
            have f0 := HOg.out.frozen (t * 3)
            have f1 := HOg.out.frozen (t * 3 + 1)
            have f2 := HOg.out.frozen (t * 3 + 2)
            have HFIN : Hid (OB ((((ge wq x).setCell ⟨g, t * 3, none⟩ (.int .i64 b.1)).setCell ⟨g, t * 3 + 1, none⟩ (.int .i64 b.2.1)).setCell ⟨g, t * 3 + 2, none⟩ (.int .i64 b.2.2)) w.heap.size (.slice (some ⟨g, 0, none⟩) (k + 1) c2) (srtL (xs.take (k + 1)))) := by
              have h := HOg.out.set b (k := t) (by rw [mid_len, HSL.out]; omega)
              rw [mid_end (by rw [HSL.out]; omega), ins_srt HSS.out (by rw [HSL.out]; omega) (fun i h1 h2 => HD.out.2.2 i h1 (by rw [HSL.out] at h2; exact h2)) (HSTP.out), HSN.out] at h
              exact h
            go_wp2
            go_roundw
            case rel => exact ⟨k + 1, by omega, by go_num, ((HBg.out.setCell HGE.out _).setCell HGE.out _).setCell HGE.out _, HFIN.out⟩
            case measure => simp [intOf]; omega
          · go_wp2
            refine wp_region_ge_lit (by kernel_rfl) (by kernel_rfl) ?_; (repeat (go_big_quiet_step ((go_at_call 105; exact ge_call (hbf ▸ l01Before_any b (nth S (t - 1)) _))))); refine wpQuiet_nil ?_
            rintro w3 ⟨x, rfl⟩
            have HBF := Lib.hid hbf
            clear hbf p0 p1 p2 r0 r1 r2
            have HOg := Lib.hid (HD.out.2.1.below (ge_below wq x))
            have HBg := Lib.hid (below_up HD.out.1 (ge_below wq x))
            obtain ⟨b3, o3, hA3, hb3, q0, q1, q2⟩ := HOg.out.bl.at_ (k := t) (by rw [mid_len, HSL.out]; omega)
            simp only [Option.some.injEq, Addr.mk.injEq] at hA3
            obtain ⟨rfl, rfl, -⟩ := hA3
            obtain ⟨b5, o5, hA5, hb5, r0, r1, r2⟩ := HOg.out.bl.at_ (k := t - 1) (by rw [mid_len, HSL.out]; omega)
            simp only [Option.some.injEq, Addr.mk.injEq] at hA5
            obtain ⟨rfl, rfl, -⟩ := hA5
            rw [Nat.zero_add] at q0 q1 q2 r0 r1 r2
            rw [HMN.out] at r0 r1 r2
            have f0 := HOg.out.frozen (t * 3)
            have f1 := HOg.out.frozen (t * 3 + 1)
            have f2 := HOg.out.frozen (t * 3 + 2)
            have HFIN : Hid (OB ((((ge wq x).setCell ⟨g, t * 3, none⟩ (.int .i64 (nth S (t - 1)).1)).setCell ⟨g, t * 3 + 1, none⟩ (.int .i64 (nth S (t - 1)).2.1)).setCell ⟨g, t * 3 + 2, none⟩ (.int .i64 (nth S (t - 1)).2.2)) w.heap.size (.slice (some ⟨g, 0, none⟩) (k + 1) c2) (S.take (t - 1) ++ [nth S (t - 1)] ++ S.drop (t - 1))) := by
              have h := HOg.out.set (nth S (t - 1)) (k := t) (by rw [mid_len, HSL.out]; omega)
              rw [mid_back (by rw [HSL.out]; omega) ht0] at h
              exact h
            go_wp2
            go_roundw
            case rel =>
              refine ⟨t - 1, nth S (t - 1), by omega, by go_num, ((HBg.out.setCell HGE.out _).setCell HGE.out _).setCell HGE.out _, HFIN.out, fun i h1 h2 => ?_⟩
              by_cases e : i = t - 1
              · rw [e]; exact HBF.out
              · exact HD.out.2.2 i (by omega) h2
            case measure => simp [intOf]; omega
        · have HSTP : Hid (t = 0 ∨ befB b (nth S (t - 1)) = false) := .inl (by omega)
          go_wp2
          refine wp_region_ge_lit (by kernel_rfl) (by kernel_rfl) ?_; (repeat (go_big_quiet_step ((fail)))); refine wpQuiet_nil ?_
          rintro w3 ⟨x, rfl⟩
          have HOg := Lib.hid (HD.out.2.1.below (ge_below wq x))
          have HBg := Lib.hid (below_up HD.out.1 (ge_below wq x))
          obtain ⟨b3, o3, hA3, hb3, q0, q1, q2⟩ := HOg.out.bl.at_ (k := t) (by rw [mid_len, HSL.out]; omega)
          simp only [Option.some.injEq, Addr.mk.injEq] at hA3
          obtain ⟨rfl, rfl, -⟩ := hA3
          rw [Nat.zero_add] at q0 q1 q2
          have f0 := HOg.out.frozen (t * 3)
          have f1 := HOg.out.frozen (t * 3 + 1)
          have f2 := HOg.out.frozen (t * 3 + 2)
          have HFIN : Hid (OB ((((ge wq x).setCell ⟨g, t * 3, none⟩ (.int .i64 b.1)).setCell ⟨g, t * 3 + 1, none⟩ (.int .i64 b.2.1)).setCell ⟨g, t * 3 + 2, none⟩ (.int .i64 b.2.2)) w.heap.size (.slice (some ⟨g, 0, none⟩) (k + 1) c2) (srtL (xs.take (k + 1)))) := by
            have h := HOg.out.set b (k := t) (by rw [mid_len, HSL.out]; omega)
            rw [mid_end (by rw [HSL.out]; omega), ins_srt HSS.out (by rw [HSL.out]; omega) (fun i h1 h2 => HD.out.2.2 i h1 (by rw [HSL.out] at h2; exact h2)) (HSTP.out), HSN.out] at h
            exact h
          go_wp2
          go_roundw
          case rel => exact ⟨k + 1, by omega, by go_num, ((HBg.out.setCell HGE.out _).setCell HGE.out _).setCell HGE.out _, HFIN.out⟩
          case measure => simp [intOf]; omega
    · obtain rfl : k = xs.length := by omega
      have HSQ := Lib.hid (HSEQ.out rfl)
      clear HSEQ
      go_wp2
      go_ret
      exact ⟨_, rfl, by rw [← HSQ.out]; exact HC.out.2, HC.out.1⟩

end Go.Proofs.Ytbknpflbafjblaa

/- Contracts of FillSystem, of the reference and of the program; conditions: stated in each. -/
namespace Go.Proofs.Ytbknpflbafjblaa
open Go.RowKit
set_option maxHeartbeats 2000000
set_option maxRecDepth 100000
set_option linter.unusedSimpArgs false
set_option linter.unusedVariables false

/-- The call returned a system, its blocks in a row of its own, and a code. -/
def LPB (w : World) (v : Int) (xs : List Blk) (k : Int) (e : Ending) (w' : World) : Prop :=
  ∃ B d, e = .returned (.tuple #[.agg #[.int .i64 v, .slice B xs.length d], .int .i64 k]) ∧ Own w' w.heap.size 99 3 (.slice B xs.length d) xs.length (cells3' xs) ∧ Below w.heap.size w w'
theorem LPB.mk {w w' : World} {u : Value} {v v' : Int} {xs xs' : List Blk} {k k' : Int} (h : OB w' w.heap.size u xs) (hv : v' = v) (hn : xs' = xs) (hk : k' = k) (hb : Below w.heap.size w w') : LPB w v' xs' k' (.returned (.tuple #[.agg #[.int .i64 v, u], .int .i64 k])) w' := by
  subst hv hn hk
  obtain ⟨B, d, rfl⟩ := own_slice h
  exact ⟨B, d, rfl, h, hb⟩
theorem Row.put2 {w : World} {g : Nat} {t : TypeId} {a b : Value} (h : Row w g t #[a, b]) (X Y : Value) : (w.setCell ⟨g, 0, none⟩ X).cell? ⟨g, 0, none⟩ = some X ∧ ((w.setCell ⟨g, 0, none⟩ X).setCell ⟨g, 1, none⟩ Y).cell? ⟨g, 1, none⟩ = some Y := ⟨(h.set 0 X).cell 0, ((h.set 0 X).set 1 Y).cell 1⟩
noncomputable def filR (v : Int) (xs : List Blk) : Int × List Blk × Int := if isSysB v xs = true then (v, srtL (fillK xs (triL (freeB xs) v.toNat) (triL (freeB xs) v.toNat).length), 0) else (0, [], 1)
theorem OB.keep2 {w : World} {base g : Nat} {u : Value} {xs : List Blk} (h : OB w base u xs) (hg : g < base) (X Y : Value) : OB ((w.setCell ⟨g, 0, none⟩ X).setCell ⟨g, 1, none⟩ Y) base u xs := by
  refine World.ownsRow.kept h (grown_set (grown_set (grown_refl w (some g)) 0 X) 1 Y) ?_
  cases e : u.ownBlock with
  | none => exact .inl rfl
  | some b =>
    right; intro e2
    have := (h.lt b e).1
    simp only [Option.some.injEq] at e2
    omega

theorem implFil_any (v : Int) (A : Option Addr) (c : Nat) (xs : List Blk) (w : World) (hA : Bl w A xs) (hl : xs.length ≤ 1048576) :
    Calls Try.prog 48 #[.agg #[.int .i64 v, .slice A xs.length c]] w (LPB w (filR v xs).1 (filR v xs).2.1 (filR v xs).2.2) := by
  obtain ⟨bi0, hbi, hbi0, hbi1, hbi2⟩ := info_parts infoBlk'
  have hr1 := Row.new (w.alloc (.cells #[.int .i64 v, .slice A xs.length c] 30)) 30 #[.int .i64 0, .slice none 0 0]
  rw [World.size_alloc] at hr1
  have HRR := Lib.hid hr1
  have hba := below_alloc (w.alloc (.cells #[.int .i64 v, .slice A xs.length c] 30)) (.cells #[.int .i64 0, .slice none 0 0] 30)
  have HW := Lib.hid (below_up (below_alloc w (.cells #[.int .i64 v, .slice A xs.length c] 30)) hba)
  have HR : Hid (Row ((w.alloc (.cells #[.int .i64 v, .slice A xs.length c] 30)).alloc (.cells #[.int .i64 0, .slice none 0 0] 30)) w.heap.size 30 #[.int .i64 v, .slice A xs.length c]) := Row.below (Row.box w 30 (.int .i64 v) (.slice A xs.length c)) hba
  have HA := Lib.hid (hA.below HW.out)
  have HSZ : Hid (((w.alloc (.cells #[.int .i64 v, .slice A xs.length c] 30)).alloc (.cells #[.int .i64 0, .slice none 0 0] 30)).heap.size = w.heap.size + 2) := by unfold Hid; rw [World.size_alloc, World.size_alloc]
  clear hA hr1 hba
  cases hs : isSysB v xs
  · have HN : Hid (filR v xs = (0, [], 1)) := by unfold Hid filR; simp [hs]
    generalize filR v xs = R at *
    go_enter Try.func48, Try.ntmps48
    go_wp2_with fail
    refine (IsSystem_any v A c xs _ HA.out hl).mono ?_
    rw [hs]
    rintro e w1 ⟨rfl, hb⟩
    have hR := HRR.out.below hb
    obtain ⟨c0, c1⟩ := hR.c2
    have f0 := hR.frozen 0
    have f1 := hR.frozen 1
    have hlt := hR.lt
    obtain ⟨k0, k1⟩ := hR.put2 (.int .i64 0) (.slice none 0 0)
    have HW1 := Lib.hid (HW.out.trans (hb.mono HW.out.size))
    clear hb hR
    go_wp2
    (try simp only [Exit.inBlock, Exit.then])
    refine bodyPost_ret (by simp [results, Try.results48, go_sem, k0, k1]; try rfl) rfl ?_
    exact LPB.mk (OB.nilv _ _) (by rw [HN.out]) (by rw [HN.out]) (by rw [HN.out]) ((HW1.out.setCell (Nat.le_succ _) _).setCell (Nat.le_succ _) _)
  · have HS := Lib.hid (isSysB_iff.1 hs)
    have hv := HS.out.1
    have hl35 := HS.out.2.1
    obtain ⟨n, rfl⟩ := Int.eq_ofNat_of_zero_le (by omega : 0 ≤ v)
    have HN : Hid (filR n xs = ((n : Int), srtL (fillK xs (triL (freeB xs) n) (triL (freeB xs) n).length), 0)) := by unfold Hid filR; rw [if_pos hs]; rfl
    have HTG : Hid (∀ j, j < (triL (freeB xs) n).length → goodB 15 (nth (triL (freeB xs) n) j) = true) := fun j hj => good_mono (triL_good (nth_mem hj)) (by omega)
    have HXG : Hid (∀ j, j < xs.length → goodB 15 (nth xs j) = true) := fun i hi => good_mono (HS.out.2.2.1 i hi).1 HS.out.1.2
    have hTl := triL_len (freeB xs) (n := n) (by omega)
    have HFREE : Hid (∀ W : World, Bl W A xs → Calls Try.prog 97 #[.agg #[.int .i64 n, .slice A xs.length c]] W fun e w' => ∃ u, e = .returned u ∧ OB w' W.heap.size u (triL (freeB xs) n) ∧ Below W.heap.size W w') := fun W hW => free_any n A c xs W hW hl HS.out
    generalize filR n xs = R at *
    generalize triL (freeB xs) n = T at *
    have HST : Hid (∀ k, fillK xs T (k + 1) = if freeB (fillK xs T k) (nth T k) = true then fillK xs T k ++ [nth T k] else fillK xs T k) := fun k => rfl
    have HF0 : Hid (fillK xs T 0 = xs) := rfl
    have HFL := Lib.hid (fillK_len xs T)
    have HFG := Lib.hid (fillK_good HXG.out HTG.out)
    generalize fillK xs T = F at *
    go_enter Try.func48, Try.ntmps48
    go_wp2_with fail
    refine (IsSystem_any n A c xs _ HA.out hl).mono ?_
    rw [hs]
    rintro e w1 ⟨rfl, hb⟩
    generalize (w.alloc _).alloc _ = W0 at *
    have HR1 := Lib.hid (HR.out.below hb)
    have HA1 := Lib.hid (HA.out.below hb)
    have HRR1 := Lib.hid (HRR.out.below hb)
    have HW1 := Lib.hid (HW.out.trans (hb.mono HW.out.size))
    have HSZ1 : Hid (w.heap.size + 2 ≤ w1.heap.size) := by have := hb.size; have := HSZ.out; unfold Hid; omega
    have hz1 : w.heap.size + 2 ≤ w1.heap.size := HSZ1.out
    clear hb hs
    obtain ⟨c0, c1⟩ := HR1.out.c2
    go_wp2
    have HKEEP := Lib.hid (And.intro c0 c1)
    have HBX : Hid (∀ W, Below w1.heap.size w1 W → (W.cell? ⟨w.heap.size, 0, none⟩ = some (.int .i64 n) ∧ W.cell? ⟨w.heap.size, 1, none⟩ = some (.slice A xs.length c))) := fun W hb => (HR1.out.below hb).c2
    clear c0 c1
    go_region_held3 (fun w' => w'.cell? ⟨w.heap.size, 0, none⟩ = some (.int .i64 n) ∧ w'.cell? ⟨w.heap.size, 1, none⟩ = some (.slice A xs.length c)) (first | exact HKEEP.out | exact HBX.out _ (by (repeat' (first | (with_reducible exact Below.refl _ _) | (with_reducible assumption) | (with_reducible refine below_drewN ?_ _) | (with_reducible refine Below.drew ?_) | (with_reducible refine Below.alloc ?_ ?_ _) | (with_reducible refine Below.setCell ?_ ?_ _) | go_size)))) (first
      | (go_at_call 95
         refine (grid_any n A c xs _ (HA1.out.below (by (repeat' (first | (with_reducible exact Below.refl _ _) | (with_reducible assumption) | (with_reducible refine below_drewN ?_ _) | (with_reducible refine Below.drew ?_) | (with_reducible refine Below.alloc ?_ ?_ _) | (with_reducible refine Below.setCell ?_ ?_ _) | go_size)))) hl HS.out).mono ?_
         rintro e w3 ⟨g, rfl, hle, hG, hb⟩
         have HB3 : Hid (Below w1.heap.size w1 w3) := below_up (by (repeat' (first | (with_reducible exact Below.refl _ _) | (with_reducible assumption) | (with_reducible refine below_drewN ?_ _) | (with_reducible refine Below.drew ?_) | (with_reducible refine Below.alloc ?_ ?_ _) | (with_reducible refine Below.setCell ?_ ?_ _) | go_size))) hb
         have HG3 := Lib.hid hG
         have HGE : Hid (w1.heap.size ≤ g) := hle
         replace HKEEP := Lib.hid (HBX.out _ HB3.out)
         have hb3 := HB3.out
         have hz3 := HB3.out.size
         clear hb hG hle)
      | (go_at_call 96
         refine (cloneB_any A c xs _ (HA1.out.below HB3.out) hl).mono ?_
         rintro e w4 ⟨uL, rfl, hO, hb⟩
         have HB4 : Hid (Below w1.heap.size w1 w4) := below_up HB3.out hb
         have HG4 := Lib.hid (HG3.out.below hb)
         have HL4 : Hid (OB w4 w1.heap.size uL xs) := hO.base HB3.out.size
         have HLN : Hid (∀ b, uL.ownBlock = some b → b ≠ g) := fun b e => by have := (hO.lt b e).1; have := HG3.out.lt; omega
         replace HKEEP := Lib.hid (HBX.out _ HB4.out)
         have hb4 := HB4.out
         have hz4 := HB4.out.size
         clear hb hO))
    all_goals
      clear hb3 hz3 hb4 hz4 hz1
      obtain ⟨c0, c1⟩ := (HR1.out.below HB4.out).c2
      have hlr := (HR1.out.below HB4.out).lt
      go_wp2_with fail
      refine (HFREE.out _ (HA1.out.below HB4.out)).mono ?_
      rintro e w5 ⟨uT, rfl, hO, hb⟩
      obtain ⟨BT, dT, rfl⟩ := own_slice hO
      have HB5 : Hid (Below w1.heap.size w1 w5) := below_up HB4.out hb
      have HG5 := Lib.hid (HG4.out.below hb)
      have HL5 := Lib.hid (HL4.out.below hb)
      have HT5 : Hid (OB w5 w1.heap.size (.slice BT T.length dT) T) := hO.base HB4.out.size
      have HTN : Hid (∀ b, (Value.slice BT T.length dT).ownBlock = some b → b ≠ g ∧ uL.ownBlock ≠ some b) := fun b e => by
        have h1 := (hO.lt b e).1
        have h2 := HG4.out.lt
        refine ⟨by omega, fun e2 => ?_⟩
        have := (HL4.out.lt b e2).2
        omega
      clear hb hO c0 c1 hlr
      obtain ⟨AL, cL, huL⟩ := own_slice HL5.out
      subst huL
      go_wp2
      go_loopw [5, 20] (fun u i wr => ∃ k : Nat, k ≤ T.length ∧ i = .int .i64 k ∧ Hid (Below w1.heap.size w1 wr ∧ Gr wr g (gridN (F k) (F k).length) ∧ OB wr w1.heap.size (.slice BT T.length dT) T ∧ OB wr w1.heap.size u (F k) ∧ (∀ b, u.ownBlock = some b → b ≠ g) ∧ (∀ b, (Value.slice BT T.length dT).ownBlock = some b → u.ownBlock ≠ some b))) (fun _ i _ => T.length - (intOf i).toNat)
      case atStart => exact ⟨0, by omega, rfl, HB5.out, by rw [HF0.out]; exact HG5.out, HT5.out, by rw [HF0.out]; exact HL5.out, HLN.out, fun b e => (HTN.out b e).2⟩
      case round =>
        obtain ⟨k, hk, rfl, HC⟩ := hrel
        by_cases hlt : k < T.length
        · obtain ⟨b1, o1, hA1, hb1, p0, p1, p2⟩ := HC.out.2.2.1.bl.at_ hlt
          subst hA1
          have HGB := Lib.hid (HTG.out k hlt)
          have HFGk := Lib.hid (HFG.out k (by omega))
          have hFl := HFL.out k
          have HX := Lib.hid (Box.new wr (nth T k) 99)
          have HBA := Lib.hid (below_alloc wr (.cells #[.int .i64 (nth T k).1, .int .i64 (nth T k).2.1, .int .i64 (nth T k).2.2] 99))
          have HLF := Lib.hid (left_free HFGk.out HGB.out)
          have HSTk := Lib.hid (HST.out k)
          have HGS := Lib.hid (gridN_snoc (F k) (nth T k))
          have HLTg : Hid (g < wr.heap.size) := HC.out.2.1.lt
          go_wp2_with fail
          refine (isLeft_any g _ (nth T k) _ (HC.out.2.1.below HBA.out) HGB.out).mono ?_
          rw [HLF.out]
          cases hfr : freeB (F k) (nth T k)
          · rintro e w6 ⟨rfl, hb⟩
            have HB6 := Lib.hid (below_up HBA.out hb)
            have HSK : Hid (F (k + 1) = F k) := by unfold Hid; rw [HSTk.out, if_neg (by simp [hfr])]
            clear hb p0 p1 p2 hfr
            go_wp2
            go_roundw
            case rel => exact ⟨k + 1, by omega, by go_num, below_up HC.out.1 HB6.out, by rw [HSK.out]; exact HC.out.2.1.below HB6.out, HC.out.2.2.1.below HB6.out, by rw [HSK.out]; exact HC.out.2.2.2.1.below HB6.out, HC.out.2.2.2.2⟩
            case measure => simp [intOf]; omega
          · rintro e w6 ⟨rfl, hb⟩
            have HB6 := Lib.hid (below_up HBA.out hb)
            have HX6 := Lib.hid (HX.out.below hb)
            have HSK : Hid (F (k + 1) = F k ++ [nth T k]) := by unfold Hid; rw [HSTk.out, if_pos hfr]
            clear hb p0 p1 p2 hfr
            obtain ⟨x0, x1, x2⟩ := HX6.out.three
            have hxl := HX6.out.1
            go_wp2_with fail
            refine (put_true g _ (nth T k) _ (HC.out.2.1.below HB6.out) HGB.out).mono ?_
            rintro e w7 ⟨rfl, hG7, hg7⟩
            clear x0 x1 x2
            have hX7 : Box w7 wr.heap.size (nth T k) := ⟨Nat.lt_of_lt_of_le hxl hg7.size, fun i hi => (World.cell?_of_block (a := ⟨wr.heap.size, i, none⟩) (hg7.block _ hxl (fun e => by have := HLTg.out; simp only [Option.some.injEq] at e; omega))).trans (HX6.out.2 i hi)⟩
            have HB7 : Hid (Below w1.heap.size w1 w7) := (below_up HC.out.1 HB6.out).grown hg7 (Nat.le_trans HC.out.1.size HB6.out.size) (fun b e => by simp only [Option.some.injEq] at e; subst e; exact HGE.out)
            have HG7 := Lib.hid hG7
            have hne7 : ∀ {u : Value}, (∀ b, u.ownBlock = some b → b ≠ g) → u.ownBlock = none ∨ u.ownBlock ≠ some g := fun {u} h => by
              cases e : u.ownBlock with
              | none => exact .inl rfl
              | some b => right; intro e2; simp only [Option.some.injEq] at e2; exact h b e e2
            have hTG : ∀ b, (Value.slice (some ⟨b1, o1, none⟩) T.length dT).ownBlock = some b → b ≠ g := fun b e => (HTN.out b e).1
            have HT7 : Hid (OB w7 w1.heap.size (.slice (some ⟨b1, o1, none⟩) T.length dT) T) := World.ownsRow.kept (HC.out.2.2.1.below HB6.out) hg7 (hne7 hTG)
            have hL7 : OB w7 w1.heap.size u5 (F k) := World.ownsRow.kept (HC.out.2.2.2.1.below HB6.out) hg7 (hne7 HC.out.2.2.2.2.1)
            have HOO : Hid (w7.ownsRow w1.heap.size 99 3 u5 (F k).length (cells3' (F k))) := hL7
            have HLT7 : Hid (∀ b, u5.ownBlock = some b → b < w7.heap.size) := fun b e => (hL7.lt b e).2
            obtain ⟨x0, x1, x2⟩ := hX7.three
            have hxl7 := hX7.1
            have hbw := HB7.out.size
            clear hX7 hG7 hg7 hne7 hTG hL7 hxl
            go_wp2_with (at_builtin; refine wpList_append_own_at _ rfl _ _ 28 rfl w1.heap.size 99 bi0 (.agg #[.int .i64 0, .int .i64 0, .int .i64 0]) 3 24 Try.underlying28 hbi hbi0 hbi1 hbi2 rfl (by decide) _ _ _ rfl (HOO.out.alloc _) ⟨w7.heap.size, 0, none⟩ 1 1 [.int .i64 (nth T k).1, .int .i64 (nth T k).2.1, .int .i64 (nth T k).2.2] rfl rfl (cells_new _ _ _) (by simp [Value.oneCell']) (by unfold maxLen; omega) (by omega) (by simp; omega) ?_; intro v2 w8 hown2 hg2 _ hat2)
            have HL8 : Hid (OB w8 w1.heap.size v2 (F k ++ [nth T k])) := OB.snoc hown2
            have hg3 : (w7.alloc (.cells #[.int .i64 (nth T k).1, .int .i64 (nth T k).2.1, .int .i64 (nth T k).2.2] 99)).grownBy w8 u5.ownBlock := hg2
            have hat3 : v2.ownBlock = u5.ownBlock ∨ v2.ownBlock = some (w7.alloc (.cells #[.int .i64 (nth T k).1, .int .i64 (nth T k).2.1, .int .i64 (nth T k).2.2] 99)).heap.size := hat2
            clear hg2 hat2
            have HB8 : Hid (Below w1.heap.size w1 w8) := (HB7.out.alloc HB7.out.size _).grown hg3 (by simp; omega) (own_block HOO.out)
            have hu5g : u5.ownBlock ≠ some g := fun e => HC.out.2.2.2.2.1 g e rfl
            have hsz7 : g < (w7.alloc (.cells #[.int .i64 (nth T k).1, .int .i64 (nth T k).2.1, .int .i64 (nth T k).2.2] 99)).heap.size := by have := HG7.out.lt; simp; omega
            have HG8 : Hid (Gr w8 g (putG (gridN (F k) (F k).length) (nth T k) true)) := (hg3.block g hsz7 (fun e => hu5g e.symm)).trans (HG7.out.below (below_alloc _ _))
            have HT8 : Hid (OB w8 w1.heap.size (.slice (some ⟨b1, o1, none⟩) T.length dT) T) := World.ownsRow.kept (HT7.out.below (below_alloc _ _)) hg3 (by
              right; intro e
              exact HC.out.2.2.2.2.2 b1 rfl (by rw [← e]; rfl))
            have HN8 : Hid ((∀ b, v2.ownBlock = some b → b ≠ g) ∧ (∀ b, (Value.slice (some ⟨b1, o1, none⟩) T.length dT).ownBlock = some b → v2.ownBlock ≠ some b)) := by
              rcases hat3 with e | e
              · rw [e]; exact HC.out.2.2.2.2
              · refine ⟨fun b e2 => ?_, fun b e2 e3 => ?_⟩
                · rw [e] at e2
                  have := HG7.out.lt
                  simp at e2; omega
                · rw [e] at e3
                  have := (HT7.out.lt b e2).2
                  simp at e3; omega
            clear hown2 hg3 hat3 hu5g hsz7 hbw x0 x1 x2 hxl7
            go_wp2
            go_roundw
            case rel => exact ⟨k + 1, by omega, by go_num, HB8.out, by rw [HSK.out, HGS.out]; exact HG8.out, HT8.out, by rw [HSK.out]; exact HL8.out, HN8.out⟩
            case measure => simp [intOf]; omega
        · obtain rfl : k = T.length := by omega
          obtain ⟨A5, c5, hu5⟩ := own_slice HC.out.2.2.2.1
          subst hu5
          have HFl : Hid ((F T.length).length ≤ 1048576) := by have := HFL.out T.length; unfold Hid; omega
          obtain ⟨c0, c1⟩ := (HR1.out.below HC.out.1).c2
          have hlr := (HR1.out.below HC.out.1).lt
          go_wp2_with fail
          refine (system_any n A5 c5 (F T.length) _ HC.out.2.2.2.1.bl HFl.out).mono ?_
          rintro e w9 ⟨u9, rfl, hO, hb⟩
          obtain ⟨B9, d9, rfl⟩ := own_slice hO
          have HO9 : Hid (OB w9 w1.heap.size (.slice B9 (srtL (F T.length)).length d9) (srtL (F T.length))) := hO.base HC.out.1.size
          have hR := (HRR1.out.below HC.out.1).below hb
          have HB9 := Lib.hid (below_up HW1.out (below_up HC.out.1 hb))
          obtain ⟨y0, y1⟩ := hR.c2
          have f0 := hR.frozen 0
          have f1 := hR.frozen 1
          have hlt9 := hR.lt
          obtain ⟨k0, k1⟩ := hR.put2 (.int .i64 n) (.slice B9 (srtL (F T.length)).length d9)
          have HK := Lib.hid (fun X Y => (HO9.out.keep2 (g := w.heap.size + 1) (by have := HSZ1.out; omega) X Y).base (base' := w.heap.size) (by have := HSZ1.out; omega))
          clear hO hb hR c0 c1 hlr
          go_wp2
          (try simp only [Exit.inBlock, Exit.then])
          refine bodyPost_ret (by simp [results, Try.results48, go_sem, k0, k1]; try rfl) rfl ?_
          exact LPB.mk (HK.out _ _) (by rw [HN.out]) (by rw [HN.out]) (by rw [HN.out]) ((HB9.out.setCell (Nat.le_succ _) _).setCell (Nat.le_succ _) _)

end Go.Proofs.Ytbknpflbafjblaa

/- Contracts of FillSystem of the reference; conditions: stated in each. -/
namespace Go.Proofs.Ytbknpflbafjblaa
open Go.RowKit
set_option maxHeartbeats 2000000
set_option maxRecDepth 100000
set_option linter.unusedSimpArgs false
set_option linter.unusedVariables false

section
variable {P : Program} (w : World)
theorem run_append_zero (base : Nat) (t ty e : TypeId) (i : TypeInfo) (size : Nat) (ht : P.underlying t = some (.slice e)) (hi : P.info? e = some i)
    (v : Value) (n : Nat) (xs : List Value) (hown : w.ownsRow base e size v n xs) (A : Option Addr) (c : Nat) :
    (Builtin.append_ #[t, t] ty #[v, .slice A 0 c]).run P w = .ok v w := by
  rcases hown.2 with ⟨rfl, rfl⟩ | ⟨g, cap, cur, rfl, _, _, hnc, _⟩
  · cases A <;> simp [Builtin.append_, run_underlying ht, sizeOf, typeInfo, hi, Builtin.lenOf, Builtin.firstCells, loadCells, loadCellsFrom]
  · cases A <;> simp [Builtin.append_, run_underlying ht, sizeOf, typeInfo, hi, Builtin.lenOf, Builtin.firstCells, hnc, storeCells, loadCells, loadCellsFrom]
/-- append of nothing to a row of the call's own, at a step of a region that draws. -/
theorem step_append_zero {ops : Array Oper} {o : Oper} {a : Act} {K : Act → World → Prop} {Q : Exit → Act → World → Prop} {E : Prop} (hgd : o.guard = none) (s x : Operand) (t : TypeId)
    (ho : o.op = .call { callee := .builtin .append, args := #[s, x], argTypes := #[t, t] })
    (base : Nat) (e : TypeId) (i : TypeInfo) (size : Nat) (ht : P.underlying t = some (.slice e)) (hi : P.info? e = some i)
    (v : Value) (n : Nat) (xs : List Value) (hs : a.eval s = v) (hown : w.ownsRow base e size v n xs) (A : Option Addr) (c : Nat) (hx : a.eval x = .slice A 0 c)
    (h : K (a.put o.dst v) w) : if Region.wanted o (yielded ops a.tmps) = true then Oper.wp P o a w K Q else E := by
  have hw : Region.wanted o (yielded ops a.tmps) = true := by simp [Region.wanted, hgd]
  rw [if_pos hw]
  have hr := run_append_zero (P := P) w base t o.type e i size ht hi v n xs hown A c
  unfold Oper.wp execOp
  simp only [ho, resolve, invoke, builtin, Sem.run_bind, Sem.run_pure, Result.andThen_ok, List.map_toArray, List.map_cons, List.map_nil, hs, hx, hr]
  exact h
end

theorem l01Made_any (v : Int) (A : Option Addr) (c : Nat) (xs : List Blk) (w : World) (hA : Bl w A xs) (hl : xs.length ≤ 1048576) :
    Calls Try.prog 94 #[.int .i64 v, .slice A xs.length c] w fun e w' => ∃ u, e = .returned (.agg #[.int .i64 v, u]) ∧ OB w' w.heap.size u (srtL xs) ∧ Below w.heap.size w w' := by
  have HB0 := Lib.hid (below_alloc w (.cells #[.int .i64 0, .slice none 0 0] 30))
  have HR := Lib.hid (Row.new w 30 #[.int .i64 0, .slice none 0 0])
  have HA := Lib.hid (hA.below HB0.out); clear hA
  have HSZ : Hid ((w.alloc (.cells #[.int .i64 0, .slice none 0 0] 30)).heap.size = w.heap.size + 1) := World.size_alloc _ _
  go_enter Try.func94, Try.ntmps94
  go_wp2_with fail
  refine (l01Sort_any A c xs _ HA.out hl).mono ?_
  rintro e w1 ⟨u, rfl, hO, hb⟩
  obtain ⟨B, d, rfl⟩ := own_slice hO
  have HO := Lib.hid hO
  have HB1 := Lib.hid (HB0.out.trans (hb.mono HB0.out.size))
  have hR := HR.out.below hb
  obtain ⟨c0, c1⟩ := hR.c2
  have f0 := hR.frozen 0
  have f1 := hR.frozen 1
  have hlt := hR.lt
  have k0 : (w1.setCell ⟨w.heap.size, 0, none⟩ (.int .i64 v)).cell? ⟨w.heap.size, 0, none⟩ = some (.int .i64 v) := (hR.set 0 _).cell 0
  have k1 : ((w1.setCell ⟨w.heap.size, 0, none⟩ (.int .i64 v)).setCell ⟨w.heap.size, 1, none⟩ (.slice B (srtL xs).length d)).cell? ⟨w.heap.size, 1, none⟩ = some (.slice B (srtL xs).length d) := ((hR.set 0 _).set 1 _).cell 1
  have HOK : Hid (∀ X Y : Value, OB ((w1.setCell ⟨w.heap.size, 0, none⟩ X).setCell ⟨w.heap.size, 1, none⟩ Y) w.heap.size (.slice B (srtL xs).length d) (srtL xs)) := by
    intro X Y
    refine OB.base (base := (w.alloc (.cells #[.int .i64 0, .slice none 0 0] 30)).heap.size) ?_ (by have := HSZ.out; omega)
    refine World.ownsRow.kept hO (grown_set (grown_set (grown_refl w1 (some w.heap.size)) 0 X) 1 Y) ?_
    cases B with
    | none => exact .inl rfl
    | some ad =>
      right
      intro e
      have := (hO.lt ad.block rfl).1
      have := HSZ.out
      simp [Value.ownBlock] at e
      omega
  have HBB : Hid (∀ X Y : Value, Below w.heap.size w ((w1.setCell ⟨w.heap.size, 0, none⟩ X).setCell ⟨w.heap.size, 1, none⟩ Y)) := fun X Y => (HB1.out.setCell (Nat.le_refl _) _).setCell (Nat.le_refl _) _
  clear hO hb hR
  go_wp2
  (try simp only [Exit.inBlock, Exit.then])
  refine bodyPost_ret (by simp [results, Try.results94, go_sem, k0, k1]; try rfl) rfl ?_
  exact ⟨_, rfl, HOK.out _ _, HBB.out _ _⟩


theorem l01Copy_any (v : Int) (A : Option Addr) (c : Nat) (xs : List Blk) (w : World) (hA : Bl w A xs) (hl : xs.length ≤ 1048576) :
    Calls Try.prog 92 #[.agg #[.int .i64 v, .slice A xs.length c]] w fun e w' => ∃ u, e = .returned (.agg #[.int .i64 v, u]) ∧ OB w' w.heap.size u xs ∧ Below w.heap.size w w' := by
  obtain ⟨bi0, hbi, hbi0, hbi1, hbi2⟩ := info_parts infoBlk'
  have hr1 := Row.new (w.alloc (.cells #[.int .i64 v, .slice A xs.length c] 30)) 30 #[.int .i64 0, .slice none 0 0]
  rw [World.size_alloc] at hr1
  have HRR := Lib.hid hr1
  have hba := below_alloc (w.alloc (.cells #[.int .i64 v, .slice A xs.length c] 30)) (.cells #[.int .i64 0, .slice none 0 0] 30)
  have HW := Lib.hid (below_up (below_alloc w (.cells #[.int .i64 v, .slice A xs.length c] 30)) hba)
  have HR : Hid (Row ((w.alloc (.cells #[.int .i64 v, .slice A xs.length c] 30)).alloc (.cells #[.int .i64 0, .slice none 0 0] 30)) w.heap.size 30 #[.int .i64 v, .slice A xs.length c]) := Row.below (Row.box w 30 (.int .i64 v) (.slice A xs.length c)) hba
  have HA := Lib.hid (hA.below HW.out)
  have HSZ : Hid (((w.alloc (.cells #[.int .i64 v, .slice A xs.length c] 30)).alloc (.cells #[.int .i64 0, .slice none 0 0] 30)).heap.size = w.heap.size + 2) := by unfold Hid; rw [World.size_alloc, World.size_alloc]
  clear hA hr1 hba
  go_enter Try.func92, Try.ntmps92
  go_wp2
  generalize (w.alloc _).alloc _ = W0 at *
  obtain ⟨c0, c1⟩ := HR.out.c2
  have HKEEP := Lib.hid (And.intro c0 c1)
  have HBX : Hid (∀ W, Below W0.heap.size W0 W → (W.cell? ⟨w.heap.size, 0, none⟩ = some (.int .i64 v) ∧ W.cell? ⟨w.heap.size, 1, none⟩ = some (.slice A xs.length c))) := fun W hb => (HR.out.below hb).c2
  obtain ⟨d0, d1⟩ := HRR.out.c2
  have f0 := HRR.out.frozen 0
  have f1 := HRR.out.frozen 1
  have hlt := HRR.out.lt
  have HE : Hid (OB (W0.alloc (.cells #[] 99)) W0.heap.size (.slice (some ⟨W0.heap.size, 0, none⟩) 0 0) []) := own_empty _ _ _
  have HBZ : Hid (∀ (X Y : Value) (W : World), Below W0.heap.size ((W0.setCell ⟨w.heap.size + 1, 0, none⟩ X).setCell ⟨w.heap.size + 1, 1, none⟩ Y) W → (W.cell? ⟨w.heap.size, 0, none⟩ = some (.int .i64 v) ∧ W.cell? ⟨w.heap.size, 1, none⟩ = some (.slice A xs.length c))) := fun X Y W hb => by
    have hR2 : Row ((W0.setCell ⟨w.heap.size + 1, 0, none⟩ X).setCell ⟨w.heap.size + 1, 1, none⟩ Y) w.heap.size 30 #[.int .i64 v, .slice A xs.length c] := (HR.out.far (by simp) X).far (by simp) Y
    exact (Row.below hR2 (by simpa using hb)).c2
  clear c0 c1
  by_cases h0 : xs = []
  · subst h0
    have e0 : ([] : List Blk).length = 0 := rfl
    rw [e0] at HKEEP HBX HBZ HR ⊢
    clear e0
    go_region_held3 (fun w' => w'.cell? ⟨w.heap.size, 0, none⟩ = some (.int .i64 v) ∧ w'.cell? ⟨w.heap.size, 1, none⟩ = some (.slice A 0 c)) (first | exact HKEEP.out | (refine HBX.out _ ?_; (repeat' (first | (with_reducible exact Below.refl _ _) | (with_reducible assumption) | (with_reducible refine below_drewN ?_ _) | (with_reducible refine Below.drew ?_) | (with_reducible refine Below.alloc ?_ ?_ _) | (with_reducible refine Below.setCell ?_ ?_ _) | go_size)); done) | (refine HBZ.out (.int .i64 v) (.slice (some ⟨W0.heap.size, 0, none⟩) 0 0) _ ?_; (repeat' (first | (with_reducible exact Below.refl _ _) | (with_reducible assumption) | (with_reducible refine below_drewN ?_ _) | (with_reducible refine Below.drew ?_) | (with_reducible refine Below.alloc ?_ ?_ _) | (with_reducible refine Below.setCell ?_ ?_ _) | go_size)); done)) (first
      | (refine step_append_zero _ (by rfl) _ _ 28 (by rfl) W0.heap.size 99 bi0 3 (by rfl) hbi _ 0 [] (by rfl) HE.out A c (by rfl) ?_))
    all_goals
      have hZ : Row (((W0.setCell ⟨w.heap.size + 1, 0, none⟩ (.int .i64 v)).setCell ⟨w.heap.size + 1, 1, none⟩ (.slice (some ⟨W0.heap.size, 0, none⟩) 0 0)).alloc (.cells #[] 99)).drew (w.heap.size + 1) 30 #[.int .i64 v, .slice (some ⟨W0.heap.size, 0, none⟩) 0 0] := ((((HRR.out.set 0 (.int .i64 v)).set 1 (.slice (some ⟨W0.heap.size, 0, none⟩) 0 0)).below (below_alloc _ _)).below (below_drew _))
      have hO : OB (((W0.setCell ⟨w.heap.size + 1, 0, none⟩ (.int .i64 v)).setCell ⟨w.heap.size + 1, 1, none⟩ (.slice (some ⟨W0.heap.size, 0, none⟩) 0 0)).alloc (.cells #[] 99)).drew w.heap.size (.slice (some ⟨W0.heap.size, 0, none⟩) 0 0) [] := by
        have h1 := own_empty ((W0.setCell ⟨w.heap.size + 1, 0, none⟩ (.int .i64 v)).setCell ⟨w.heap.size + 1, 1, none⟩ (.slice (some ⟨W0.heap.size, 0, none⟩) 0 0)) 99 3
        rw [show ((W0.setCell ⟨w.heap.size + 1, 0, none⟩ (.int .i64 v)).setCell ⟨w.heap.size + 1, 1, none⟩ (.slice (some ⟨W0.heap.size, 0, none⟩) 0 0)).heap.size = W0.heap.size from by simp] at h1
        exact OB.base (own_below h1 (below_drew _)) (by have := HSZ.out; omega)
      have HO := Lib.hid hO
      have HBW : Hid (Below w.heap.size w (((W0.setCell ⟨w.heap.size + 1, 0, none⟩ (.int .i64 v)).setCell ⟨w.heap.size + 1, 1, none⟩ (.slice (some ⟨W0.heap.size, 0, none⟩) 0 0)).alloc (.cells #[] 99)).drew) := (((HW.out.setCell (Nat.le_succ _) _).setCell (Nat.le_succ _) _).alloc (by simp; have := HSZ.out; omega) _).drew
      obtain ⟨k0, k1⟩ := hZ.c2
      have hzl := hZ.lt
      clear hO hZ
      generalize (((W0.setCell ⟨w.heap.size + 1, 0, none⟩ (.int .i64 v)).setCell ⟨w.heap.size + 1, 1, none⟩ (.slice (some ⟨W0.heap.size, 0, none⟩) 0 0)).alloc (.cells #[] 99)).drew = W9 at *
      go_wp2
      (try simp only [Exit.inBlock, Exit.then])
      refine bodyPost_ret (by simp [results, Try.results92, go_sem, k0, k1]; try rfl) rfl ?_
      exact ⟨_, rfl, HO.out, HBW.out⟩
  · have hp : 0 < xs.length := List.length_pos_iff.2 h0
    obtain ⟨g, o, hA1, hgl, _⟩ := HA.out.at_ hp
    subst hA1
    have hc3 := cells3'_len xs
    have HC : Hid (∀ j u, (cells3' xs)[j]? = some u → (W0.alloc (.cells #[] 99)).drew.cell? ((⟨g, o, none⟩ : Addr).add j) = some u) := Bl.cells ((HA.out.below (below_alloc W0 (.cells #[] 99))).below (below_drew _))
    have HE2 : Hid (OB (W0.alloc (.cells #[] 99)).drew W0.heap.size (.slice (some ⟨W0.heap.size, 0, none⟩) 0 0) []) := HE.out
    go_region_held3 (fun w' => w'.cell? ⟨w.heap.size, 0, none⟩ = some (.int .i64 v) ∧ w'.cell? ⟨w.heap.size, 1, none⟩ = some (.slice (some ⟨g, o, none⟩) xs.length c)) (first | exact HKEEP.out | (refine HBX.out _ ?_; (repeat' (first | (with_reducible exact Below.refl _ _) | (with_reducible assumption) | (with_reducible refine below_drewN ?_ _) | (with_reducible refine Below.drew ?_) | (with_reducible refine Below.alloc ?_ ?_ _) | (with_reducible refine Below.setCell ?_ ?_ _) | go_size)); done) | (refine HBY.out (.int .i64 v) (.slice (some ⟨g9, 0, none⟩) xs.length cap) _ ?_; (repeat' (first | (with_reducible exact Below.refl _ _) | (with_reducible assumption) | (with_reducible refine below_drewN ?_ _) | (with_reducible refine Below.drew ?_) | (with_reducible refine Below.alloc ?_ ?_ _) | (with_reducible refine Below.setCell ?_ ?_ _) | go_size)); done)) (first
      | (go_loud (refine step_append_lies (W0.alloc (.cells #[] 99)).drew ?q1 (.tmp 5) (.tmp 7) 28 ?q2 W0.heap.size 99 bi0 (.agg #[.int .i64 0, .int .i64 0, .int .i64 0]) 3 24 ?q3 hbi hbi0 hbi1 hbi2 ?q4 ?q5 (.slice (some ⟨W0.heap.size, 0, none⟩) 0 0) 0 [] ?q6 HE2.out ⟨g, o, none⟩ xs.length c (cells3' xs) ?q7 hc3 HC.out cells3_one hp ?q8 ?q9 ?q10 (W0.heap.size + 1) ?q11 ?q12)
         case q1 => rfl
         case q2 => rfl
         case q3 => exact Try.underlying28
         case q4 => rfl
         case q5 => decide
         case q6 => rfl
         case q7 => rfl
         case q8 => (unfold maxLen; omega)
         case q9 => omega
         case q10 => (go_loud (simp))
         case q11 => (go_loud (simp))
         intro g9 cap w9 hown9 hg9 hat9 hlt9
         go_loud (replace HKEEP := Lib.hid (HBX.out _ ((below_alloc W0 (.cells #[] 99)).drew.grown hg9 (by simp) (own_block HE2.out))); have HO9 : Hid (OB w9 W0.heap.size (.slice (some ⟨g9, 0, none⟩) (0 + xs.length) cap) xs) := (by unfold Hid OB; simpa [cells3'] using hown9); have HB9 : Hid (Below W0.heap.size W0 w9) := (below_alloc W0 (.cells #[] 99)).drew.grown hg9 (by simp) (own_block HE2.out); have hb9 := HB9.out; have HBY : Hid (∀ (X Y : Value) (W : World), Below w9.heap.size ((w9.setCell ⟨w.heap.size + 1, 0, none⟩ X).setCell ⟨w.heap.size + 1, 1, none⟩ Y) W → (W.cell? ⟨w.heap.size, 0, none⟩ = some (.int .i64 v) ∧ W.cell? ⟨w.heap.size, 1, none⟩ = some (.slice (some ⟨g, o, none⟩) xs.length c))) := (fun X Y W hb => (Row.below (Row.far (Row.far (Row.below HR.out HB9.out) (p := ⟨w.heap.size + 1, 0, none⟩) (by simp) X) (p := ⟨w.heap.size + 1, 1, none⟩) (by simp) Y) (by simpa using hb)).c2); have hlx9 : w.heap.size + 1 < w9.heap.size := Nat.lt_of_lt_of_le hlt HB9.out.size; obtain ⟨y0, y1⟩ := (HRR.out.below HB9.out).c2; have g0 := (HRR.out.below HB9.out).frozen 0; have g1 := (HRR.out.below HB9.out).frozen 1)
         clear hown9 hg9 hat9))
    all_goals
      have hZ : Row ((w9.setCell ⟨w.heap.size + 1, 0, none⟩ (.int .i64 v)).setCell ⟨w.heap.size + 1, 1, none⟩ (.slice (some ⟨g9, 0, none⟩) xs.length cap)) (w.heap.size + 1) 30 #[.int .i64 v, .slice (some ⟨g9, 0, none⟩) xs.length cap] := (((HRR.out.below HB9.out).set 0 (.int .i64 v)).set 1 (.slice (some ⟨g9, 0, none⟩) xs.length cap))
      have HO9' : Hid (OB w9 W0.heap.size (.slice (some ⟨g9, 0, none⟩) xs.length cap) xs) := by have := HO9.out; rw [Nat.zero_add] at this; exact this
      have HO : Hid (OB ((w9.setCell ⟨w.heap.size + 1, 0, none⟩ (.int .i64 v)).setCell ⟨w.heap.size + 1, 1, none⟩ (.slice (some ⟨g9, 0, none⟩) xs.length cap)) w.heap.size (.slice (some ⟨g9, 0, none⟩) xs.length cap) xs) := (HO9'.out.keep2 (g := w.heap.size + 1) (by have := HSZ.out; omega) _ _).base (by have := HSZ.out; omega)
      have HBW : Hid (Below w.heap.size w ((w9.setCell ⟨w.heap.size + 1, 0, none⟩ (.int .i64 v)).setCell ⟨w.heap.size + 1, 1, none⟩ (.slice (some ⟨g9, 0, none⟩) xs.length cap))) := (((below_up HW.out HB9.out).setCell (Nat.le_succ _) _).setCell (Nat.le_succ _) _)
      obtain ⟨k0, k1⟩ := hZ.c2
      have hzl := hZ.lt
      clear hZ y0 y1 g0 g1 hb9 hlx9
      generalize ((w9.setCell ⟨w.heap.size + 1, 0, none⟩ (.int .i64 v)).setCell ⟨w.heap.size + 1, 1, none⟩ (.slice (some ⟨g9, 0, none⟩) xs.length cap)) = W9 at *
      go_wp2
      (try simp only [Exit.inBlock, Exit.then])
      refine bodyPost_ret (by simp [results, Try.results92, go_sem, k0, k1]; try rfl) rfl ?_
      exact ⟨_, rfl, HO.out, HBW.out⟩

end Go.Proofs.Ytbknpflbafjblaa

/- A condition on the world that holds behind every operation of a drawn region but one, which waits for all others. Conditions: stated in each. -/
namespace Go.Proofs.Ytbknpflbafjblaa

section
variable {P : Program} {ops : Array Oper} {Q : Exit → Act → World → Prop} {md : Region.Mode} {S : World → Prop} {N : Nat}

/-- whatever order is picked from here on; S holds behind every operation but number N -/
def AnyBut (P : Program) (md : Region.Mode) (ops : Array Oper) (Q : Exit → Act → World → Prop) (S : World → Prop) (N : Nat) : Nat → Array Bool → Act → World → Prop
  | 0, listed, a, w => Region.ready md ops listed = [] ∧ Q .normal a w
  | fuel + 1, listed, a, w => (Region.ready md ops listed = [] → Q .normal a w) ∧ ∀ i ∈ Region.ready md ops listed, wpOp P ops Q i (fun a' w' => (i ≠ N → S w') ∧ AnyBut P md ops Q S N fuel (listed.setIfInBounds i true) a' w') a w
theorem AnyBut.any : ∀ {fuel : Nat} {listed : Array Bool} {a : Act} {w : World}, AnyBut P md ops Q S N fuel listed a w → wpAny P md ops Q fuel listed a w
  | 0, _, _, _, h => h
  | _ + 1, _, _, _, h => ⟨h.1, fun i hi => wpOp_mono (fun _ _ h' => AnyBut.any h'.2) (h.2 i hi)⟩
theorem AnyBut.begin {id : Nat} {a : Act} {w : World} (hm : P.follows .mixedOrders = true) (h : AnyBut P .any ops Q S N ops.size (Array.replicate ops.size false) a w.drew) : (Code.region id ops true).wp P Q a w := wp_region_any hm h.any
theorem AnyBut.done {listed : Array Bool} {a : Act} {w : World} (hr : Region.ready md ops listed = []) (h : Q .normal a w) : ∀ fuel, AnyBut P md ops Q S N fuel listed a w
  | 0 => ⟨hr, h⟩
  | _ + 1 => ⟨fun _ => h, by rw [hr]; simp⟩
/-- number i may be taken first, if N waits for it -/
theorem AnyBut.first {i : Nat} {oi : Oper} {v : Value} (hi : ops[i]? = some oi) (hiN : i ≠ N) (hN : ∀ oj, ops[N]? = some oj → ∃ e ∈ oj.after, Region.binds md e = true ∧ e.on = i) (hsel : ∀ (j : Nat) (o : Oper) cs b, ops[j]? = some o → o.op ≠ .select cs b)
    (hQ : ∀ c a w, Q (.panic c) (a.put oi.dst v) w → Q (.panic c) a w) : ∀ (fuel : Nat) (listed : Array Bool) (a : Act) (w : World),
      (∀ j oj, ops[j]? = some oj → j ≠ i → listed.getD j true = false → (∀ e ∈ oj.after, Region.binds md e = true → e.on ≠ i) → oi.apart ops oj = true) →
      i ∈ Region.ready md ops listed → YieldsIf P ops S oi v a → S w → AnyBut P md ops Q S N fuel (listed.setIfInBounds i true) (a.put oi.dst v) w → AnyBut P md ops Q S N (fuel + 1) listed a w
  | fuel, listed, a, w, hfree, hr, hy, hS, H => by
    refine ⟨fun h => (by rw [h] at hr; cases hr), fun j hj => ?_⟩
    by_cases hji : j = i
    · subst hji; exact hy.wpOp hi hS ⟨fun _ => hS, H⟩
    · cases fuel with
      | zero =>
        have h0 := ready_mono hj hji
        rw [H.1] at h0; cases h0
      | succ fuel =>
        obtain ⟨hjun, oj, hoj, hall⟩ := mem_ready.1 hj
        have hnot : ∀ e ∈ oj.after, Region.binds md e = true → e.on ≠ i := fun e he hb heq => by
          have h1 := hall e he hb
          have h0 := (mem_ready.1 hr).1
          rw [heq] at h1
          rcases Nat.lt_or_ge i listed.size with h' | h'
          · simp [h'] at h0 h1; rw [h0] at h1; cases h1
          · simp [Array.getElem?_eq_none h'] at h1
        have hjN : j ≠ N := fun e => by
          subst e
          obtain ⟨e, he, hb, hon⟩ := hN oj hoj
          exact hnot e he hb hon
        have h2 := wpOp_putIf hoj (hfree j oj hoj hji hjun hnot) (fun cs b => hsel i oi cs b hi) (fun cs b => hsel j oj cs b hoj) hQ hy (H.2 j (ready_mono hj hji))
        refine wpOp_mono (fun a' w' h3 => ⟨h3.2.1, AnyBut.first hi hiN hN hsel hQ fuel (listed.setIfInBounds j true) a' w' (fun k ok hk hki hun hno => ?_) (ready_mono hr (Ne.symm hji)) h3.1 (h3.2.1 hjN) ?_⟩) h2
        · refine hfree k ok hk hki ?_ hno
          by_cases hjk : j = k
          · subst hjk; exact hjun
          · rw [getD_set_ne true hjk] at hun; exact hun
        · rw [Array.setIfInBounds_comm _ _ hji]; exact h3.2.2
theorem AnyBut.take {i : Nat} {oi on : Oper} {v : Value} {fuel : Nat} {listed : Array Bool} {a : Act} {w : World} (hi : ops[i]? = some oi) (hn : ops[N]? = some on) (hiN : i ≠ N) (hN : (on.after.any fun e => Region.binds md e && e.on == i) = true)
    (hs : Region.noSelect ops = true) (hf : Region.free md ops listed i = true) (hr : (Region.ready md ops listed).contains i = true) (hQ : ∀ c a w, Q (.panic c) (a.put oi.dst v) w → Q (.panic c) a w) (hy : YieldsIf P ops S oi v a) (hS : S w)
    (h : AnyBut P md ops Q S N fuel (listed.setIfInBounds i true) (a.put oi.dst v) w) : AnyBut P md ops Q S N (fuel + 1) listed a w :=
  AnyBut.first hi hiN (fun oj hoj => by
    obtain rfl : on = oj := by rw [hn] at hoj; exact Option.some.inj hoj
    simp only [Array.any_eq_true, Bool.and_eq_true, beq_iff_eq] at hN
    obtain ⟨k, hk, h1, h2⟩ := hN
    exact ⟨_, Array.getElem_mem hk, h1, h2⟩) (Region.noSelect_spec hs) hQ fuel listed a w (Region.free_spec hi hf) (by simpa using hr) hy hS h
/-- each of the operations 'rs' comes up next -/
def AllBut (P : Program) (md : Region.Mode) (ops : Array Oper) (Q : Exit → Act → World → Prop) (S : World → Prop) (N : Nat) (fuel : Nat) (listed : Array Bool) (a : Act) (w : World) (rs : List Nat) : Prop :=
  ∀ i ∈ rs, wpOp P ops Q i (fun a' w' => (i ≠ N → S w') ∧ AnyBut P md ops Q S N fuel (listed.setIfInBounds i true) a' w') a w
theorem AllBut.nil {fuel : Nat} {listed : Array Bool} {a : Act} {w : World} : AllBut P md ops Q S N fuel listed a w [] := fun _ h => by cases h
theorem AllBut.cons {fuel : Nat} {listed : Array Bool} {a : Act} {w : World} {i : Nat} {o : Oper} {rs : List Nat} (ho : ops[i]? = some o)
    (h : ∀ K' : Act → World → Prop, Shut (∀ a w, (i ≠ N → S w) → (AnyBut P md ops Q S N fuel (listed.setIfInBounds i true) a w) → K' a w) → if Region.wanted o (yielded ops a.tmps) = true then Oper.wp P o a w K' Q else K' (a.put o.dst undef) w)
    (hs : AllBut P md ops Q S N fuel listed a w rs) : AllBut P md ops Q S N fuel listed a w (i :: rs) := fun j hj => by
  rcases List.mem_cons.1 hj with rfl | hj
  · exact wpOp_step ho (fun K' hK => h K' (fun a w hS hW => hK a w ⟨hS, hW⟩))
  · exact hs j hj
theorem AnyBut.ready {rs : List Nat} {fuel : Nat} {listed : Array Bool} {a : Act} {w : World} (hr : Region.ready md ops listed = rs) (hne : rs ≠ []) (h : AllBut P md ops Q S N fuel listed a w rs) : AnyBut P md ops Q S N (fuel + 1) listed a w :=
  ⟨fun h0 => absurd (hr ▸ h0) hne, hr ▸ h⟩
end

end Go.Proofs.Ytbknpflbafjblaa

/- The contract of FillSystem of the reference; conditions: stated in it. -/
namespace Go.Proofs.Ytbknpflbafjblaa
open Go.RowKit
set_option maxHeartbeats 2000000
set_option maxRecDepth 100000
set_option linter.unusedSimpArgs false
set_option linter.unusedVariables false

/-- what the filling loop holds: a box of the system so far, its blocks, the row of the tries -/
def FS (B : Nat) (w1 w : World) (g : Nat) (v : Int) (u uT : Value) (ys T : List Blk) : Prop :=
  Below B w1 w ∧ Row w g 30 #[.int .i64 v, u] ∧ B ≤ g ∧ OB w B u ys ∧ OB w B uT T ∧ uT.ownBlock ≠ some g
theorem tcells {w : World} {B b1 o1 m d k : Nat} {T : List Blk} (hT : OB w B (.slice (some ⟨b1, o1, none⟩) m d) T) (hk : k < T.length) : w.cell? ⟨b1, o1 + k * 3, none⟩ = some (.int .i64 (nth T k).1) ∧ w.cell? ⟨b1, o1 + k * 3 + 1, none⟩ = some (.int .i64 (nth T k).2.1) ∧ w.cell? ⟨b1, o1 + k * 3 + 2, none⟩ = some (.int .i64 (nth T k).2.2) := by
  obtain ⟨b, o, hA, _, hp⟩ := hT.bl.at_ hk
  cases hA
  exact hp
theorem step_append_bl {ops : Array Oper} {o : Oper} {a : Act} {K : Act → World → Prop} {Q : Exit → Act → World → Prop} {E : Prop} (W : World) (hgd : o.guard = none) (s x : Operand)
    (ho : o.op = .call { callee := .builtin .append, args := #[s, x], argTypes := #[28, 28] }) (base : Nat) (v : Value) (hs : a.eval s = v) (hown : OB W base v []) (A : Option Addr) (c : Nat) (ys : List Blk) (hx : a.eval x = .slice A ys.length c) (hb : Bl W A ys) (hl : ys.length ≤ 1048576) (hbase : base ≤ W.heap.size)
    (h : ∀ v9 w9, OB w9 base v9 ys → W.grownBy w9 v.ownBlock → K (a.put o.dst v9) w9) :
    if Region.wanted o (yielded ops a.tmps) = true then Oper.wp Try.prog o a W K Q else E := by
  obtain ⟨bi0, hbi, hbi0, hbi1, hbi2⟩ := info_parts infoBlk'
  by_cases h0 : ys = []
  · subst h0
    exact step_append_zero W hgd s x 28 ho base 99 bi0 3 Try.underlying28 hbi v 0 [] hs hown A c hx (h v W hown (grown_refl _ _))
  · have hp : 0 < ys.length := List.length_pos_iff.2 h0
    obtain ⟨g, o2, hA1, hgl, _⟩ := hb.at_ hp
    subst hA1
    refine step_append_lies W hgd s x 28 ho base 99 bi0 (.agg #[.int .i64 0, .int .i64 0, .int .i64 0]) 3 24 Try.underlying28 hbi hbi0 hbi1 hbi2 rfl (by decide) v 0 [] hs hown ⟨g, o2, none⟩ ys.length c (cells3' ys) hx (cells3'_len ys) (Bl.cells hb) cells3_one hp (by unfold maxLen; omega) (by omega) hbase W.heap.size rfl ?_
    intro g9 cap w9 ho9 hg9 _ _
    exact h _ w9 (by rw [Nat.zero_add] at ho9 ⊢; simpa [OB, cells3'] using ho9) hg9
theorem FS.below {B g : Nat} {w1 w w' : World} {v : Int} {u uT : Value} {ys T : List Blk} (h : FS B w1 w g v u uT ys T) (hb : Below w.heap.size w w') : FS B w1 w' g v u uT ys T :=
  ⟨h.1.trans (hb.mono (by have := h.2.1.lt; have := h.2.2.1; omega)), h.2.1.below hb, h.2.2.1, own_below h.2.2.2.1 hb, own_below h.2.2.2.2.1 hb, h.2.2.2.2.2⟩
theorem OB.keepg {w : World} {base g : Nat} {u : Value} {xs : List Blk} (h : OB w base u xs) (hg : u.ownBlock ≠ some g) (X Y : Value) : OB ((w.setCell ⟨g, 0, none⟩ X).setCell ⟨g, 1, none⟩ Y) base u xs := by
  refine World.ownsRow.kept h (grown_set (grown_set (grown_refl w (some g)) 0 X) 1 Y) ?_
  cases e : u.ownBlock with
  | none => exact .inl rfl
  | some b => right; intro e2; exact hg (e.trans e2)
theorem fs_set {B g : Nat} {w1 w4 : World} {v : Int} {u uT a b : Value} {ys T : List Blk} (hb : Below B w1 w4) (hg : B ≤ g) (hq : Row w4 g 30 #[a, b]) (hO : OB w4 B u ys) (hT : OB w4 B uT T) (h1 : uT.ownBlock ≠ some g) (h2 : u.ownBlock ≠ some g) :
    FS B w1 ((w4.setCell ⟨g, 0, none⟩ (.int .i64 v)).setCell ⟨g, 1, none⟩ u) g v u uT ys T :=
  ⟨(hb.setCell hg _).setCell hg _, (hq.set 0 _).set 1 _, hg, hO.keepg h2 _ _, hT.keepg h1 _ _, h1⟩
theorem fs_alloc {B : Nat} {w1 w4 : World} {v : Int} {u uT : Value} {ys T : List Blk} (hb : Below B w1 w4) (hg : B ≤ w4.heap.size) (hO : OB w4 B u ys) (hT : OB w4 B uT T) (h1 : uT.ownBlock ≠ some w4.heap.size) :
    FS B w1 (w4.alloc (.cells #[.int .i64 v, u] 30)) w4.heap.size v u uT ys T :=
  ⟨hb.alloc hg _, Row.new w4 _ _, hg, own_below hO (below_alloc _ _), own_below hT (below_alloc _ _), h1⟩

theorem specFil_any (v : Int) (A : Option Addr) (c : Nat) (xs : List Blk) (w : World) (hA : Bl w A xs) (hl : xs.length ≤ 1048576) :
    Calls Try.prog 47 #[.agg #[.int .i64 v, .slice A xs.length c]] w (LPB w (filR v xs).1 (filR v xs).2.1 (filR v xs).2.2) := by
  obtain ⟨bi0, hbi, hbi0, hbi1, hbi2⟩ := info_parts infoBlk'
  have hr1 := Row.new (w.alloc (.cells #[.int .i64 v, .slice A xs.length c] 30)) 30 #[.int .i64 0, .slice none 0 0]
  rw [World.size_alloc] at hr1
  have HRR := Lib.hid hr1
  have hba := below_alloc (w.alloc (.cells #[.int .i64 v, .slice A xs.length c] 30)) (.cells #[.int .i64 0, .slice none 0 0] 30)
  have HW := Lib.hid (below_up (below_alloc w (.cells #[.int .i64 v, .slice A xs.length c] 30)) hba)
  have HR : Hid (Row ((w.alloc (.cells #[.int .i64 v, .slice A xs.length c] 30)).alloc (.cells #[.int .i64 0, .slice none 0 0] 30)) w.heap.size 30 #[.int .i64 v, .slice A xs.length c]) := Row.below (Row.box w 30 (.int .i64 v) (.slice A xs.length c)) hba
  have HA := Lib.hid (hA.below HW.out)
  have HSZ : Hid (((w.alloc (.cells #[.int .i64 v, .slice A xs.length c] 30)).alloc (.cells #[.int .i64 0, .slice none 0 0] 30)).heap.size = w.heap.size + 2) := by unfold Hid; rw [World.size_alloc, World.size_alloc]
  clear hA hr1 hba
  cases hs : isSysB v xs
  · have HN : Hid (filR v xs = (0, [], 1)) := by unfold Hid filR; simp [hs]
    generalize filR v xs = R at *
    go_enter Try.func47, Try.ntmps47
    go_wp2_with fail
    refine (l01Is_any v A c xs _ HA.out hl).mono ?_
    rw [hs]
    rintro e w1 ⟨rfl, hb⟩
    have hR := HRR.out.below hb
    obtain ⟨c0, c1⟩ := hR.c2
    have f0 := hR.frozen 0
    have f1 := hR.frozen 1
    have hlt := hR.lt
    obtain ⟨k0, k1⟩ := hR.put2 (.int .i64 0) (.slice none 0 0)
    have HW1 := Lib.hid (HW.out.trans (hb.mono HW.out.size))
    clear hb hR
    go_wp2
    (try simp only [Exit.inBlock, Exit.then])
    refine bodyPost_ret (by simp [results, Try.results47, go_sem, k0, k1]; try rfl) rfl ?_
    exact LPB.mk (OB.nilv _ _) (by rw [HN.out]) (by rw [HN.out]) (by rw [HN.out]) ((HW1.out.setCell (Nat.le_succ _) _).setCell (Nat.le_succ _) _)
  · have HS := Lib.hid (isSysB_iff.1 hs)
    have hv := HS.out.1
    have hl35 := HS.out.2.1
    obtain ⟨n, rfl⟩ := Int.eq_ofNat_of_zero_le (by omega : 0 ≤ v)
    have HN : Hid (filR n xs = ((n : Int), srtL (fillK xs (triL (freeB xs) n) (triL (freeB xs) n).length), 0)) := by unfold Hid filR; rw [if_pos hs]; rfl
    have hTl := triL_len (freeB xs) (n := n) (by omega)
    have HREST : Hid (∀ W : World, Bl W A xs → Calls Try.prog 91 #[.agg #[.int .i64 n, .slice A xs.length c]] W fun e w' => ∃ u, e = .returned u ∧ OB w' W.heap.size u (triL (freeB xs) n) ∧ Below W.heap.size W w') := fun W hW => l01Rest_any n A c xs W (by omega) hW hl
    generalize filR n xs = R at *
    generalize triL (freeB xs) n = T at *
    have HST : Hid (∀ k, fillK xs T (k + 1) = if freeB (fillK xs T k) (nth T k) = true then fillK xs T k ++ [nth T k] else fillK xs T k) := fun k => rfl
    have HF0 : Hid (srtL (fillK xs T 0) = xs) := (show srtL xs = xs from srt_self (are_sorted HS.out.2.2.1))
    have HFL := Lib.hid (fillK_len xs T)
    generalize fillK xs T = F at *
    go_enter Try.func47, Try.ntmps47
    go_wp2_with fail
    refine (l01Is_any n A c xs _ HA.out hl).mono ?_
    rw [hs]
    rintro e w1 ⟨rfl, hb⟩
    generalize (w.alloc _).alloc _ = W0 at *
    have HR1 := Lib.hid (HR.out.below hb)
    have HA1 := Lib.hid (HA.out.below hb)
    have HRR1 := Lib.hid (HRR.out.below hb)
    have HW1 := Lib.hid (HW.out.trans (hb.mono HW.out.size))
    have HSZ1 : Hid (w.heap.size + 2 ≤ w1.heap.size) := by have := hb.size; have := HSZ.out; unfold Hid; omega
    have hz1 : w.heap.size + 2 ≤ w1.heap.size := HSZ1.out
    clear hb hs
    obtain ⟨c0, c1⟩ := HR1.out.c2
    go_wp2
    have HKEEP := Lib.hid (And.intro c0 c1)
    have HBX : Hid (∀ W, Below w1.heap.size w1 W → (W.cell? ⟨w.heap.size, 0, none⟩ = some (.int .i64 n) ∧ W.cell? ⟨w.heap.size, 1, none⟩ = some (.slice A xs.length c))) := fun W hb => (HR1.out.below hb).c2
    have HBA : Hid (∀ W, Below w1.heap.size w1 W → Bl W A xs) := fun W hb => HA1.out.below hb
    clear c0 c1
    obtain ⟨B, hBE⟩ : ∃ B, B = w1.heap.size := ⟨_, rfl⟩
    have HBE := Lib.hid hBE
    clear hBE
    go_region_held3 (fun w' => w'.cell? ⟨w.heap.size, 0, none⟩ = some (.int .i64 n) ∧ w'.cell? ⟨w.heap.size, 1, none⟩ = some (.slice A xs.length c)) (first | exact HKEEP.out | (refine HBX.out _ ?_; (repeat' (first | (with_reducible exact Below.refl _ _) | (with_reducible assumption) | (with_reducible refine below_drewN ?_ _) | (with_reducible refine Below.drew ?_) | (with_reducible refine Below.alloc ?_ ?_ _) | (with_reducible refine Below.setCell ?_ ?_ _) | go_size)); done)) (first
      | (go_at_call 91
         refine (HREST.out _ (HBA.out _ ?_)).mono ?_
         ((repeat' (first | (with_reducible exact Below.refl _ _) | (with_reducible assumption) | (with_reducible refine below_drewN ?_ _) | (with_reducible refine Below.drew ?_) | (with_reducible refine Below.alloc ?_ ?_ _) | (with_reducible refine Below.setCell ?_ ?_ _) | go_size)))
         rintro e w3 ⟨uT, rfl, hO, hb⟩
         obtain ⟨BT, dT, rfl⟩ := own_slice hO
         have HBL3 : Hid (Below w1.heap.size w1 w3) := (by refine below_up ?_ hb; (repeat' (first | (with_reducible exact Below.refl _ _) | (with_reducible assumption) | (with_reducible refine below_drewN ?_ _) | (with_reducible refine Below.drew ?_) | (with_reducible refine Below.alloc ?_ ?_ _) | (with_reducible refine Below.setCell ?_ ?_ _) | go_size)))
         have HT3 : Hid (OB w3 w1.heap.size (.slice BT T.length dT) T) := (by refine hO.base ?_; go_size)
         have HSV3 := Lib.hid hb
         have HTB3 := Lib.hid (fun b e => hO.lt b e)
         have hb3 := HBL3.out
         have hz3 := HBL3.out.size
         (try (have hq3 := Row.below (Row.below (Row.new w1 30 #[.int .i64 0, .slice none 0 0]) (below_drew _)) hb; obtain ⟨q0, q1⟩ := hq3.c2; have qf0 := hq3.frozen 0; have qf1 := hq3.frozen 1; have ql := hq3.lt; have HQ3 := Lib.hid hq3; clear hq3))
         clear hb hO)
      | (go_at_call 92
         refine (l01Copy_any n A c xs _ (HBA.out _ ?_) hl).mono ?_
         ((repeat' (first | (with_reducible exact Below.refl _ _) | (with_reducible assumption) | (with_reducible refine below_drewN ?_ _) | (with_reducible refine Below.drew ?_) | (with_reducible refine Below.alloc ?_ ?_ _) | (with_reducible refine Below.setCell ?_ ?_ _) | go_size)))
         rintro e w4 ⟨u0, rfl, hO, hb⟩
         obtain ⟨B0, d0, rfl⟩ := own_slice hO
         have HBL4 : Hid (Below w1.heap.size w1 w4) := (by refine below_up ?_ hb; (repeat' (first | (with_reducible exact Below.refl _ _) | (with_reducible assumption) | (with_reducible refine below_drewN ?_ _) | (with_reducible refine Below.drew ?_) | (with_reducible refine Below.alloc ?_ ?_ _) | (with_reducible refine Below.setCell ?_ ?_ _) | go_size)))
         have HO4 : Hid (OB w4 w1.heap.size (.slice B0 xs.length d0) xs) := (by refine hO.base ?_; go_size)
         have HT4 : Hid (OB w4 w1.heap.size (.slice BT T.length dT) T) := (by first | exact own_below HT3.out hb | exact own_below HT3.out (below_up (below_alloc _ _) hb))
         have HOB4 := Lib.hid (fun b e => hO.lt b e)
         have hb4 := HBL4.out
         have hz4 := HBL4.out.size
         (try clear q0 q1 qf0 qf1 ql)
         (try (have hq4 := Row.below HQ3.out hb; obtain ⟨q0, q1⟩ := hq4.c2; have qf0 := hq4.frozen 0; have qf1 := hq4.frozen 1; have ql := hq4.lt; have HQ4 := Lib.hid hq4; clear hq4))
         (try (have hq4 := Row.below (Row.new w3 30 #[.int .i64 0, .slice none 0 0]) hb; obtain ⟨q0, q1⟩ := hq4.c2; have qf0 := hq4.frozen 0; have qf1 := hq4.frozen 1; have ql := hq4.lt; have HQ4 := Lib.hid hq4; clear hq4))
         replace HKEEP := Lib.hid (HBX.out _ HBL4.out)
         clear hb hO))
    all_goals
      have HZ4 := Lib.hid hz4
      clear hb3 hz3 hb4 hz4
      (try clear q0 q1 qf0 qf1 ql)
      first
        | (have HFS : Hid (FS B w1 ((w4.setCell ⟨w3.heap.size, 0, none⟩ (.int .i64 n)).setCell ⟨w3.heap.size, 1, none⟩ (.slice B0 xs.length d0)) w3.heap.size n (.slice B0 xs.length d0) (.slice BT T.length dT) xs T) := by
             unfold Hid; rw [HBE.out]
             exact fs_set HBL4.out HBL3.out.size HQ4.out HO4.out HT4.out (fun e => absurd (HT3.out.lt _ e).2 (Nat.lt_irrefl _)) (fun e => absurd (HOB4.out _ e).1 (by simp))
           go_loud (generalize ((w4.setCell ⟨w3.heap.size, 0, none⟩ (.int .i64 n)).setCell ⟨w3.heap.size, 1, none⟩ (.slice B0 xs.length d0)) = wN at HFS ⊢)
           go_loud (generalize w3.heap.size = g at HFS ⊢))
        | (have HFS : Hid (FS B w1 ((w4.setCell ⟨w1.heap.size, 0, none⟩ (.int .i64 n)).setCell ⟨w1.heap.size, 1, none⟩ (.slice B0 xs.length d0)) w1.heap.size n (.slice B0 xs.length d0) (.slice BT T.length dT) xs T) := by
             unfold Hid; rw [HBE.out]
             exact fs_set HBL4.out (Nat.le_refl _) HQ4.out HO4.out HT4.out (fun e => absurd (HTB3.out _ e).1 (by simp)) (fun e => absurd (HOB4.out _ e).1 (by have := HQ3.out.lt; omega))
           go_loud (generalize ((w4.setCell ⟨w1.heap.size, 0, none⟩ (.int .i64 n)).setCell ⟨w1.heap.size, 1, none⟩ (.slice B0 xs.length d0)) = wN at HFS ⊢)
           go_loud (generalize w1.heap.size = g at HFS ⊢))
        | (fail_if_success (have := HQ4)
           have HFS : Hid (FS B w1 (w4.alloc (.cells #[.int .i64 n, .slice B0 xs.length d0] 30)) w4.heap.size n (.slice B0 xs.length d0) (.slice BT T.length dT) xs T) := by
             unfold Hid; rw [HBE.out]
             refine fs_alloc HBL4.out HBL4.out.size HO4.out HT4.out fun e => ?_
             have h1 := (HT4.out.lt _ e).2
             omega
           generalize w4.alloc (.cells #[.int .i64 n, .slice B0 xs.length d0] 30) = wN at HFS ⊢
           generalize w4.heap.size = g at HFS ⊢)
      clear HZ4 HBL3 HT3 HSV3 HTB3 HBL4 HO4 HT4 HOB4 HKEEP
      (try clear HQ3)
      (try clear HQ4)
      go_wp2
      go_loopw [6] (fun i wr => ∃ k : Nat, k ≤ T.length ∧ i = .int .i64 k ∧ Hid (∃ B2 d2, FS B w1 wr g n (.slice B2 (srtL (F k)).length d2) (.slice BT T.length dT) (srtL (F k)) T)) (fun i _ => T.length - (intOf i).toNat)
      case atStart => exact ⟨0, by omega, rfl, B0, d0, by rw [HF0.out]; exact HFS.out⟩
      case round =>
        obtain ⟨k, hk, rfl, HC⟩ := hrel
        obtain ⟨B2, d2, hFS⟩ := HC.out
        have HFK := Lib.hid hFS
        have HYL : Hid ((srtL (F k)).length ≤ 1048576) := by have := HFL.out k; unfold Hid; rw [srt_len]; omega
        obtain ⟨c0, c1⟩ := hFS.2.1.c2
        have hgl := hFS.2.1.lt
        by_cases hlt : k < T.length
        · obtain ⟨b1, o1, hA1, hb1, p0, p1, p2⟩ := hFS.2.2.2.2.1.bl.at_ hlt
          subst hA1
          clear hFS
          have HKC := Lib.hid (And.intro c0 (And.intro c1 (And.intro p0 (And.intro p1 p2))))
          have HCX : Hid (∀ W, Below wr.heap.size wr W → (W.cell? ⟨g, 0, none⟩ = some (.int .i64 n) ∧ W.cell? ⟨g, 1, none⟩ = some (.slice B2 (srtL (F k)).length d2) ∧ W.cell? ⟨b1, o1 + k * 3, none⟩ = some (.int .i64 (nth T k).1) ∧ W.cell? ⟨b1, o1 + k * 3 + 1, none⟩ = some (.int .i64 (nth T k).2.1) ∧ W.cell? ⟨b1, o1 + k * 3 + 2, none⟩ = some (.int .i64 (nth T k).2.2))) := fun W hb => by
            have o := (old_cells hb).1
            exact ⟨(o _ _ HFK.out.2.1.lt).trans HKC.out.1, (o _ _ HFK.out.2.1.lt).trans HKC.out.2.1, (o _ _ hb1).trans HKC.out.2.2.1, (o _ _ hb1).trans HKC.out.2.2.2.1, (o _ _ hb1).trans HKC.out.2.2.2.2⟩
          have HFB : Hid (freeB (srtL (F k)) (nth T k) = freeB (F k) (nth T k)) := freeB_srt _ _
          cases hfr : freeB (F k) (nth T k)
          · have HN1 : Hid (F (k + 1) = F k) := by unfold Hid; rw [HST.out, if_neg (by rw [hfr]; simp)]
            rw [hfr] at HFB
            clear hfr
            go_wp2
            clear c0 c1 p0 p1 p2
            go_region_held3 (fun w' => w'.cell? ⟨g, 0, none⟩ = some (.int .i64 n) ∧ w'.cell? ⟨g, 1, none⟩ = some (.slice B2 (srtL (F k)).length d2) ∧ w'.cell? ⟨b1, o1 + k * 3, none⟩ = some (.int .i64 (nth T k).1) ∧ w'.cell? ⟨b1, o1 + k * 3 + 1, none⟩ = some (.int .i64 (nth T k).2.1) ∧ w'.cell? ⟨b1, o1 + k * 3 + 2, none⟩ = some (.int .i64 (nth T k).2.2)) (first | exact HKC.out | (refine HCX.out _ ?_; (repeat' (first | (with_reducible exact Below.refl _ _) | (with_reducible assumption) | (with_reducible refine below_drewN ?_ _) | (with_reducible refine Below.drew ?_) | (with_reducible refine Below.alloc ?_ ?_ _) | (with_reducible refine Below.setCell ?_ ?_ _) | go_size)); done)) (first
              | (go_at_call 93
                 refine (l01Free_any n B2 d2 (srtL (F k)) (nth T k) _ ?_ HYL.out).mono ?_
                 exact HFK.out.2.2.2.1.bl.below (below_drew _)
                 rw [HFB.out]
                 rintro e w5 ⟨rfl, hb⟩
                 have HB5 : Hid (Below wr.heap.size wr w5) := (by refine below_up ?_ hb; (repeat' (first | (with_reducible exact Below.refl _ _) | (with_reducible assumption) | (with_reducible refine below_drewN ?_ _) | (with_reducible refine Below.drew ?_) | (with_reducible refine Below.alloc ?_ ?_ _) | (with_reducible refine Below.setCell ?_ ?_ _) | go_size)))
                 have hb5 := HB5.out
                 clear hb))
            all_goals
              clear hb5
              have HNX : Hid (FS B w1 w5 g n (.slice B2 (srtL (F (k + 1))).length d2) (.slice (some ⟨b1, o1, none⟩) T.length dT) (srtL (F (k + 1))) T) := by
                unfold Hid; rw [HN1.out]
                exact HFK.out.below HB5.out
              go_wp2
              go_roundw
              case rel => exact ⟨k + 1, by omega, by go_num, B2, d2, HNX.out⟩
              case measure => simp [intOf]; omega
          · have HN1 : Hid (F (k + 1) = F k ++ [nth T k]) := by unfold Hid; rw [HST.out, if_pos hfr]
            rw [hfr] at HFB
            clear hfr
            go_wp2
            clear c0 c1 p0 p1 p2
            go_region_held3 (fun w' => w'.cell? ⟨g, 0, none⟩ = some (.int .i64 n) ∧ w'.cell? ⟨g, 1, none⟩ = some (.slice B2 (srtL (F k)).length d2) ∧ w'.cell? ⟨b1, o1 + k * 3, none⟩ = some (.int .i64 (nth T k).1) ∧ w'.cell? ⟨b1, o1 + k * 3 + 1, none⟩ = some (.int .i64 (nth T k).2.1) ∧ w'.cell? ⟨b1, o1 + k * 3 + 2, none⟩ = some (.int .i64 (nth T k).2.2)) (first | exact HKC.out | (refine HCX.out _ ?_; (repeat' (first | (with_reducible exact Below.refl _ _) | (with_reducible assumption) | (with_reducible refine below_drewN ?_ _) | (with_reducible refine Below.drew ?_) | (with_reducible refine Below.alloc ?_ ?_ _) | (with_reducible refine Below.setCell ?_ ?_ _) | go_size)); done)) (first
              | (go_at_call 93
                 refine (l01Free_any n B2 d2 (srtL (F k)) (nth T k) _ ?_ HYL.out).mono ?_
                 exact HFK.out.2.2.2.1.bl.below (below_drew _)
                 rw [HFB.out]
                 rintro e w5 ⟨rfl, hb⟩
                 have HB5 : Hid (Below wr.heap.size wr w5) := (by refine below_up ?_ hb; (repeat' (first | (with_reducible exact Below.refl _ _) | (with_reducible assumption) | (with_reducible refine below_drewN ?_ _) | (with_reducible refine Below.drew ?_) | (with_reducible refine Below.alloc ?_ ?_ _) | (with_reducible refine Below.setCell ?_ ?_ _) | go_size)))
                 have hb5 := HB5.out
                 clear hb))
            all_goals
              clear hb5
              have HF5 : Hid (FS B w1 w5 g n (.slice B2 (srtL (F k)).length d2) (.slice (some ⟨b1, o1, none⟩) T.length dT) (srtL (F k)) T) := HFK.out.below HB5.out
              clear HFK HKC HCX HB5
              have HGL5 := Lib.hid HF5.out.2.1.lt
              have HS6 : Hid (∀ W, Below w5.heap.size w5 W → (W.cell? ⟨w.heap.size, 0, none⟩ = some (.int .i64 n) ∧ W.cell? ⟨b1, o1 + k * 3, none⟩ = some (.int .i64 (nth T k).1) ∧ W.cell? ⟨b1, o1 + k * 3 + 1, none⟩ = some (.int .i64 (nth T k).2.1) ∧ W.cell? ⟨b1, o1 + k * 3 + 2, none⟩ = some (.int .i64 (nth T k).2.2))) := fun W hb => by
                refine ⟨?_, tcells (own_below HF5.out.2.2.2.2.1 hb) hlt⟩
                exact (Row.below (Row.below HR1.out (HBE.out ▸ HF5.out.1)) hb).c2.1
              have HS7 : Hid (∀ (X Y : Value) W, Below w5.heap.size w5 W → (((W.setCell ⟨g, 0, none⟩ X).setCell ⟨g, 1, none⟩ Y).cell? ⟨w.heap.size, 0, none⟩ = some (.int .i64 n) ∧ ((W.setCell ⟨g, 0, none⟩ X).setCell ⟨g, 1, none⟩ Y).cell? ⟨b1, o1 + k * 3, none⟩ = some (.int .i64 (nth T k).1) ∧ ((W.setCell ⟨g, 0, none⟩ X).setCell ⟨g, 1, none⟩ Y).cell? ⟨b1, o1 + k * 3 + 1, none⟩ = some (.int .i64 (nth T k).2.1) ∧ ((W.setCell ⟨g, 0, none⟩ X).setCell ⟨g, 1, none⟩ Y).cell? ⟨b1, o1 + k * 3 + 2, none⟩ = some (.int .i64 (nth T k).2.2))) := fun X Y W hb => by
                refine ⟨?_, tcells (OB.keepg (own_below HF5.out.2.2.2.2.1 hb) HF5.out.2.2.2.2.2 X Y) hlt⟩
                have hr := Row.below (Row.below HR1.out (HBE.out ▸ HF5.out.1)) hb
                have hne : g ≠ w.heap.size := by have := HF5.out.2.2.1; have := HSZ1.out; have := HBE.out; omega
                exact ((hr.far (p := ⟨g, 0, none⟩) hne X).far (p := ⟨g, 1, none⟩) hne Y).c2.1
              have HYB : Hid (∀ W, Below w5.heap.size w5 W → Bl W B2 (srtL (F k))) := fun W hb => HF5.out.2.2.2.1.bl.below hb
              have HLEN : Hid ((srtL (F k) ++ [nth T k]).length = (srtL (F k)).length + 1) := by unfold Hid; simp
              have HMADE : Hid (∀ W A c, Bl W A (srtL (F k) ++ [nth T k]) → Calls Try.prog 94 #[.int .i64 n, .slice A ((srtL (F k)).length + 1) c] W fun e w' => ∃ u, e = .returned (.agg #[.int .i64 n, u]) ∧ OB w' W.heap.size u (srtL (F (k + 1))) ∧ Below W.heap.size W w') := fun W A c hW => by
                have := l01Made_any n A c (srtL (F k) ++ [nth T k]) W hW (by rw [HLEN.out]; have := HFL.out k; rw [srt_len]; omega)
                rw [HLEN.out, srt_app, ← HN1.out] at this
                exact this
              have HEa : Hid (OB (w5.alloc (.cells #[] 99)).drew w5.heap.size (.slice (some ⟨w5.heap.size, 0, none⟩) 0 0) []) := own_empty _ _ _
              have HEb : Hid (OB ((w5.alloc (.cells #[] 99)).alloc (.cells #[.int .i64 (nth T k).1, .int .i64 (nth T k).2.1, .int .i64 (nth T k).2.2] 99)).drew w5.heap.size (.slice (some ⟨w5.heap.size, 0, none⟩) 0 0) []) := own_below (own_empty w5 99 3) (below_alloc _ _).drew
              have HEc : Hid (OB ((w5.alloc (.cells #[.int .i64 (nth T k).1, .int .i64 (nth T k).2.1, .int .i64 (nth T k).2.2] 99)).alloc (.cells #[] 99)).drew w5.heap.size (.slice (some ⟨w5.heap.size + 1, 0, none⟩) 0 0) []) := by
                have h1 := own_empty (w5.alloc (.cells #[.int .i64 (nth T k).1, .int .i64 (nth T k).2.1, .int .i64 (nth T k).2.2] 99)) 99 3
                rw [World.size_alloc] at h1
                exact OB.base h1 (Nat.le_succ _)
              have HRb : Hid (Row ((w5.alloc (.cells #[] 99)).alloc (.cells #[.int .i64 (nth T k).1, .int .i64 (nth T k).2.1, .int .i64 (nth T k).2.2] 99)).drew (w5.heap.size + 1) 99 #[.int .i64 (nth T k).1, .int .i64 (nth T k).2.1, .int .i64 (nth T k).2.2]) := by
                have h1 := Row.new (w5.alloc (.cells #[] 99)) 99 #[.int .i64 (nth T k).1, .int .i64 (nth T k).2.1, .int .i64 (nth T k).2.2]
                rw [World.size_alloc] at h1
                exact h1
              have HRc : Hid (Row ((w5.alloc (.cells #[.int .i64 (nth T k).1, .int .i64 (nth T k).2.1, .int .i64 (nth T k).2.2] 99)).alloc (.cells #[] 99)).drew w5.heap.size 99 #[.int .i64 (nth T k).1, .int .i64 (nth T k).2.1, .int .i64 (nth T k).2.2]) := Row.below (Row.new w5 99 #[.int .i64 (nth T k).1, .int .i64 (nth T k).2.1, .int .i64 (nth T k).2.2]) (below_alloc _ _).drew
              have hyl := HYL.out
              obtain ⟨c0, c1⟩ := HF5.out.2.1.c2
              have hgl5 := HGL5.out
              have hk5 := HS6.out _ (Below.refl _ _)
              have HK5 := Lib.hid hk5
              clear hk5
              go_wp2
              refine wp_region_noPanic ?_
              refine AnyBut.begin (N := 13) (S := (fun w' => w'.cell? ⟨w.heap.size, 0, none⟩ = some (.int .i64 n) ∧ w'.cell? ⟨g, 1, none⟩ = some (.slice B2 (srtL (F k)).length d2) ∧ w'.cell? ⟨b1, o1 + k * 3, none⟩ = some (.int .i64 (nth T k).1) ∧ w'.cell? ⟨b1, o1 + k * 3 + 1, none⟩ = some (.int .i64 (nth T k).2.1) ∧ w'.cell? ⟨b1, o1 + k * 3 + 2, none⟩ = some (.int .i64 (nth T k).2.2))) (by kernel_rfl) ?_
              have hS0 : (fun w' => w'.cell? ⟨w.heap.size, 0, none⟩ = some (.int .i64 n) ∧ w'.cell? ⟨g, 1, none⟩ = some (.slice B2 (srtL (F k)).length d2) ∧ w'.cell? ⟨b1, o1 + k * 3, none⟩ = some (.int .i64 (nth T k).1) ∧ w'.cell? ⟨b1, o1 + k * 3 + 1, none⟩ = some (.int .i64 (nth T k).2.1) ∧ w'.cell? ⟨b1, o1 + k * 3 + 2, none⟩ = some (.int .i64 (nth T k).2.2)) w5.drew := ⟨HK5.out.1, c1, HK5.out.2⟩
              refine AnyBut.take (i := 0) (v := ?_) rfl rfl (by decide) (by kernel_rfl) (by kernel_rfl) (by kernel_rfl) (by kernel_rfl) (fun _ _ _ h => h) (Or.inl ⟨by rfl, ?_⟩) hS0 ?_
              rotate_left
              · intro W hSw
                (try dsimp only at hSw); obtain ⟨z0, z1, z2, z3, z4⟩ := hSw
                go_simp
                (try with_reducible rfl)
              (try simp only [Act.put, List.setIfInBounds_toArray, List.set_cons_zero, List.set_cons_succ])
              refine AnyBut.take (i := 1) (v := ?_) rfl rfl (by decide) (by kernel_rfl) (by kernel_rfl) (by kernel_rfl) (by kernel_rfl) (fun _ _ _ h => h) (Or.inl ⟨by rfl, ?_⟩) hS0 ?_
              rotate_left
              · intro W hSw
                (try dsimp only at hSw); obtain ⟨z0, z1, z2, z3, z4⟩ := hSw
                go_simp
                (try with_reducible rfl)
              (try simp only [Act.put, List.setIfInBounds_toArray, List.set_cons_zero, List.set_cons_succ])
              refine AnyBut.take (i := 3) (v := ?_) rfl rfl (by decide) (by kernel_rfl) (by kernel_rfl) (by kernel_rfl) (by kernel_rfl) (fun _ _ _ h => h) (Or.inl ⟨by rfl, ?_⟩) hS0 ?_
              rotate_left
              · intro W hSw
                (try dsimp only at hSw); obtain ⟨z0, z1, z2, z3, z4⟩ := hSw
                go_simp
                (try with_reducible rfl)
              (try simp only [Act.put, List.setIfInBounds_toArray, List.set_cons_zero, List.set_cons_succ])
              refine AnyBut.take (i := 4) (v := ?_) rfl rfl (by decide) (by kernel_rfl) (by kernel_rfl) (by kernel_rfl) (by kernel_rfl) (fun _ _ _ h => h) (Or.inl ⟨by rfl, ?_⟩) hS0 ?_
              rotate_left
              · intro W hSw
                (try dsimp only at hSw); obtain ⟨z0, z1, z2, z3, z4⟩ := hSw
                go_simp
                (try with_reducible rfl)
              (try simp only [Act.put, List.setIfInBounds_toArray, List.set_cons_zero, List.set_cons_succ])
              refine AnyBut.take (i := 6) (v := ?_) rfl rfl (by decide) (by kernel_rfl) (by kernel_rfl) (by kernel_rfl) (by kernel_rfl) (fun _ _ _ h => h) (Or.inl ⟨by rfl, ?_⟩) hS0 ?_
              rotate_left
              · intro W hSw
                (try dsimp only at hSw); obtain ⟨z0, z1, z2, z3, z4⟩ := hSw
                go_simp
                (try with_reducible rfl)
              (try simp only [Act.put, List.setIfInBounds_toArray, List.set_cons_zero, List.set_cons_succ])
              refine AnyBut.take (i := 7) (v := ?_) rfl rfl (by decide) (by kernel_rfl) (by kernel_rfl) (by kernel_rfl) (by kernel_rfl) (fun _ _ _ h => h) (Or.inl ⟨by rfl, ?_⟩) hS0 ?_
              rotate_left
              · intro W hSw
                (try dsimp only at hSw); obtain ⟨z0, z1, z2, z3, z4⟩ := hSw
                go_simp
                (try with_reducible rfl)
              (try simp only [Act.put, List.setIfInBounds_toArray, List.set_cons_zero, List.set_cons_succ])
              refine AnyBut.take (i := 8) (v := ?_) rfl rfl (by decide) (by kernel_rfl) (by kernel_rfl) (by kernel_rfl) (by kernel_rfl) (fun _ _ _ h => h) (Or.inl ⟨by rfl, ?_⟩) hS0 ?_
              rotate_left
              · intro W hSw
                (try dsimp only at hSw); obtain ⟨z0, z1, z2, z3, z4⟩ := hSw
                go_simp
                (try with_reducible rfl)
              (try simp only [Act.put, List.setIfInBounds_toArray, List.set_cons_zero, List.set_cons_succ])
              refine AnyBut.take (i := 9) (v := ?_) rfl rfl (by decide) (by kernel_rfl) (by kernel_rfl) (by kernel_rfl) (by kernel_rfl) (fun _ _ _ h => h) (Or.inl ⟨by rfl, ?_⟩) hS0 ?_
              rotate_left
              · intro W hSw
                (try dsimp only at hSw); obtain ⟨z0, z1, z2, z3, z4⟩ := hSw
                go_simp
                (try with_reducible rfl)
              (try simp only [Act.put, List.setIfInBounds_toArray, List.set_cons_zero, List.set_cons_succ])
              have HSX : Hid (∀ W, Below w5.heap.size w5 W → (W.cell? ⟨w.heap.size, 0, none⟩ = some (.int .i64 n) ∧ W.cell? ⟨g, 1, none⟩ = some (.slice B2 (srtL (F k)).length d2) ∧ W.cell? ⟨b1, o1 + k * 3, none⟩ = some (.int .i64 (nth T k).1) ∧ W.cell? ⟨b1, o1 + k * 3 + 1, none⟩ = some (.int .i64 (nth T k).2.1) ∧ W.cell? ⟨b1, o1 + k * 3 + 2, none⟩ = some (.int .i64 (nth T k).2.2))) := fun W hb => ⟨(HS6.out W hb).1, (Row.below HF5.out.2.1 hb).c2.2, (HS6.out W hb).2⟩
              clear hS0
              refine AnyBut.ready (rs := [2, 10]) (by kernel_rfl) (by simp) ?_
              refine AllBut.cons rfl (fun K hK => ?_) (AllBut.cons rfl (fun K hK => ?_) AllBut.nil)
              · go_simp
                refine hK.out _ _ (fun _ => ?_) ?_
                · refine HSX.out _ ?_
                  (repeat' (first | (with_reducible exact Below.refl _ _) | (with_reducible assumption) | (with_reducible refine below_drewN ?_ _) | (with_reducible refine Below.drew ?_) | (with_reducible refine Below.alloc ?_ ?_ _) | (with_reducible refine Below.setCell ?_ ?_ _) | go_size))
                clear hK K
                (try simp only [Act.put, List.setIfInBounds_toArray, List.set_cons_zero, List.set_cons_succ])
                refine AnyBut.ready (rs := [5, 10]) (by kernel_rfl) (by simp) ?_
                refine AllBut.cons rfl (fun K hK => ?_) (AllBut.cons rfl (fun K hK => ?_) AllBut.nil)
                · refine step_append_bl _ (by rfl) _ _ (by rfl) w5.heap.size _ (by rfl) HEa.out B2 d2 (srtL (F k)) (by rfl) (HYB.out _ (below_alloc w5 (.cells #[] 99)).drew) HYL.out (by simp) ?_
                  intro v9 w9 hO9 hg9
                  have HO9 : Hid (w9.ownsRow w5.heap.size 99 3 v9 (srtL (F k)).length (cells3' (srtL (F k)))) := hO9
                  have HB9 : Hid (Below w5.heap.size w5 w9) := (below_alloc w5 (.cells #[] 99)).drew.grown hg9 (by simp) (own_block HEa.out)
                  have hb9 := HB9.out
                  have hz9 := HB9.out.size
                  clear hO9 hg9
                  refine hK.out _ _ (fun _ => HSX.out _ HB9.out) ?_
                  clear hK K
                  (try simp only [Act.put, List.setIfInBounds_toArray, List.set_cons_zero, List.set_cons_succ])
                  refine AnyBut.ready (rs := [10]) (by kernel_rfl) (by simp) ?_
                  refine AllBut.cons rfl (fun K hK => ?_) AllBut.nil
                  go_simp
                  refine hK.out _ _ (fun _ => ?_) ?_
                  · refine HSX.out _ ?_
                    (repeat' (first | (with_reducible exact Below.refl _ _) | (with_reducible assumption) | (with_reducible refine below_drewN ?_ _) | (with_reducible refine Below.drew ?_) | (with_reducible refine Below.alloc ?_ ?_ _) | (with_reducible refine Below.setCell ?_ ?_ _) | go_size))
                  clear hK K
                  (try simp only [Act.put, List.setIfInBounds_toArray, List.set_cons_zero, List.set_cons_succ])
                  refine AnyBut.ready (rs := [11]) (by kernel_rfl) (by simp) ?_
                  refine AllBut.cons rfl (fun K hK => ?_) AllBut.nil
                  refine step_append_lies _ (by rfl) _ _ 28 (by rfl) w5.heap.size 99 bi0 (.agg #[.int .i64 0, .int .i64 0, .int .i64 0]) 3 24 Try.underlying28 hbi hbi0 hbi1 hbi2 rfl (by decide) _ _ _ (by rfl) (HO9.out.alloc _) ⟨w9.heap.size, 0, none⟩ 1 1 [.int .i64 (nth T k).1, .int .i64 (nth T k).2.1, .int .i64 (nth T k).2.2] (by rfl) rfl (cells_new _ _ _) (by simp [Value.oneCell']) (by omega) (by unfold maxLen; omega) (by omega) (by simp; omega) (w9.heap.size + 1) (by simp) ?_
                  intro g10 cap10 w10 hO10 hg10 _ hlt10
                  have HO10 : Hid (OB w10 w5.heap.size (.slice (some ⟨g10, 0, none⟩) ((srtL (F k)).length + 1) cap10) (srtL (F k) ++ [nth T k])) := OB.snoc hO10
                  have HB10 : Hid (Below w5.heap.size w5 w10) := (HB9.out.alloc HB9.out.size _).grown hg10 (by simp; omega) (own_block HO9.out)
                  have hb10 := HB10.out
                  have hz10 := HB10.out.size
                  clear hO10 hg10
                  refine hK.out _ _ (fun _ => HSX.out _ HB10.out) ?_
                  clear hK K
                  (try simp only [Act.put, List.setIfInBounds_toArray, List.set_cons_zero, List.set_cons_succ])
                  refine AnyBut.ready (rs := [12]) (by kernel_rfl) (by simp) ?_
                  refine AllBut.cons rfl (fun K hK => ?_) AllBut.nil
                  rw [if_pos (by rfl)]
                  go_simp
                  refine (HMADE.out _ _ _ HO10.out.bl).mono ?_
                  rintro e w11 ⟨u11, rfl, hO11, hb11⟩
                  obtain ⟨B11, d11, rfl⟩ := own_slice hO11
                  have HB11 : Hid (Below w5.heap.size w5 w11) := below_up HB10.out hb11
                  have HO11 : Hid (OB w11 w5.heap.size (.slice B11 (srtL (F (k + 1))).length d11) (srtL (F (k + 1)))) := OB.base hO11 HB10.out.size
                  obtain ⟨y0, y1⟩ := (HF5.out.2.1.below HB11.out).c2
                  have yf0 := (HF5.out.2.1.below HB11.out).frozen 0
                  have yf1 := (HF5.out.2.1.below HB11.out).frozen 1
                  have yl := (HF5.out.2.1.below HB11.out).lt
                  have hb11' := HB11.out
                  clear hO11 hb11
                  refine hK.out _ _ (fun _ => HSX.out _ HB11.out) ?_
                  clear hK K
                  (try simp only [Act.put, List.setIfInBounds_toArray, List.set_cons_zero, List.set_cons_succ])
                  refine AnyBut.ready (rs := [13]) (by kernel_rfl) (by simp) ?_
                  refine AllBut.cons rfl (fun K hK => ?_) AllBut.nil
                  go_simp
                  refine hK.out _ _ (fun h => absurd rfl h) ?_
                  clear hK K
                  (try simp only [Act.put, List.setIfInBounds_toArray, List.set_cons_zero, List.set_cons_succ])
                  refine AnyBut.done (by kernel_rfl) ?_ _
                  refine NoPanic.normal ?_
                  have HNX : Hid (FS B w1 ((w11.setCell ⟨g, 0, none⟩ (.int .i64 n)).setCell ⟨g, 1, none⟩ (.slice B11 (srtL (F (k + 1))).length d11)) g n (.slice B11 (srtL (F (k + 1))).length d11) (.slice (some ⟨b1, o1, none⟩) T.length dT) (srtL (F (k + 1))) T) := by
                    have h1 := HF5.out.below HB11.out
                    have h2 := HF5.out.1.size
                    exact fs_set h1.1 h1.2.2.1 h1.2.1 (OB.base HO11.out (by have := HF5.out.2.2.1; have := HGL5.out; omega)) h1.2.2.2.2.1 h1.2.2.2.2.2 (fun e => absurd (HO11.out.lt _ e).1 (by have := HGL5.out; omega))
                  clear c0 c1 hgl5 hyl hb9 hz9 hb10 hz10 y0 y1 yf0 yf1 yl hb11'
                  go_wp2
                  go_roundw
                  case rel => exact ⟨k + 1, by omega, by go_num, B11, d11, HNX.out⟩
                  case measure => simp [intOf]; omega
                · go_simp
                  refine hK.out _ _ (fun _ => ?_) ?_
                  · refine HSX.out _ ?_
                    (repeat' (first | (with_reducible exact Below.refl _ _) | (with_reducible assumption) | (with_reducible refine below_drewN ?_ _) | (with_reducible refine Below.drew ?_) | (with_reducible refine Below.alloc ?_ ?_ _) | (with_reducible refine Below.setCell ?_ ?_ _) | go_size))
                  clear hK K
                  (try simp only [Act.put, List.setIfInBounds_toArray, List.set_cons_zero, List.set_cons_succ])
                  refine AnyBut.ready (rs := [5]) (by kernel_rfl) (by simp) ?_
                  refine AllBut.cons rfl (fun K hK => ?_) AllBut.nil
                  refine step_append_bl _ (by rfl) _ _ (by rfl) w5.heap.size _ (by rfl) HEb.out B2 d2 (srtL (F k)) (by rfl) (HYB.out _ (((below_alloc w5 (.cells #[] 99)).alloc (by simp) (.cells #[.int .i64 (nth T k).1, .int .i64 (nth T k).2.1, .int .i64 (nth T k).2.2] 99)).drew)) HYL.out (by simp; omega) ?_
                  intro v9 w9 hO9 hg9
                  have HO9 : Hid (w9.ownsRow w5.heap.size 99 3 v9 (srtL (F k)).length (cells3' (srtL (F k)))) := hO9
                  have HB9 : Hid (Below w5.heap.size w5 w9) := Below.grown (((below_alloc w5 (.cells #[] 99)).alloc (by simp) (.cells #[.int .i64 (nth T k).1, .int .i64 (nth T k).2.1, .int .i64 (nth T k).2.2] 99)).drew) hg9 (by simp; omega) (own_block HEb.out)
                  have HE1 : Hid (Row w9 (w5.heap.size + 1) 99 #[.int .i64 (nth T k).1, .int .i64 (nth T k).2.1, .int .i64 (nth T k).2.2]) := (hg9.block _ (by simp) (by simp [Value.ownBlock])).trans HRb.out
                  have hb9 := HB9.out
                  have hz9 := HB9.out.size
                  clear hO9 hg9
                  refine hK.out _ _ (fun _ => HSX.out _ HB9.out) ?_
                  clear hK K
                  (try simp only [Act.put, List.setIfInBounds_toArray, List.set_cons_zero, List.set_cons_succ])
                  refine AnyBut.ready (rs := [11]) (by kernel_rfl) (by simp) ?_
                  refine AllBut.cons rfl (fun K hK => ?_) AllBut.nil
                  refine step_append_lies _ (by rfl) _ _ 28 (by rfl) w5.heap.size 99 bi0 (.agg #[.int .i64 0, .int .i64 0, .int .i64 0]) 3 24 Try.underlying28 hbi hbi0 hbi1 hbi2 rfl (by decide) _ _ _ (by rfl) HO9.out ⟨(w5.heap.size + 1), 0, none⟩ 1 1 [.int .i64 (nth T k).1, .int .i64 (nth T k).2.1, .int .i64 (nth T k).2.2] (by rfl) rfl (World.news_of_block HE1.out) (by simp [Value.oneCell']) (by omega) (by unfold maxLen; omega) (by omega) (by omega) w9.heap.size rfl ?_
                  intro g10 cap10 w10 hO10 hg10 _ hlt10
                  have HO10 : Hid (OB w10 w5.heap.size (.slice (some ⟨g10, 0, none⟩) ((srtL (F k)).length + 1) cap10) (srtL (F k) ++ [nth T k])) := OB.snoc hO10
                  have HB10 : Hid (Below w5.heap.size w5 w10) := HB9.out.grown hg10 HB9.out.size (own_block HO9.out)
                  have hb10 := HB10.out
                  have hz10 := HB10.out.size
                  clear hO10 hg10
                  refine hK.out _ _ (fun _ => HSX.out _ HB10.out) ?_
                  clear hK K
                  (try simp only [Act.put, List.setIfInBounds_toArray, List.set_cons_zero, List.set_cons_succ])
                  refine AnyBut.ready (rs := [12]) (by kernel_rfl) (by simp) ?_
                  refine AllBut.cons rfl (fun K hK => ?_) AllBut.nil
                  rw [if_pos (by rfl)]
                  go_simp
                  refine (HMADE.out _ _ _ HO10.out.bl).mono ?_
                  rintro e w11 ⟨u11, rfl, hO11, hb11⟩
                  obtain ⟨B11, d11, rfl⟩ := own_slice hO11
                  have HB11 : Hid (Below w5.heap.size w5 w11) := below_up HB10.out hb11
                  have HO11 : Hid (OB w11 w5.heap.size (.slice B11 (srtL (F (k + 1))).length d11) (srtL (F (k + 1)))) := OB.base hO11 HB10.out.size
                  obtain ⟨y0, y1⟩ := (HF5.out.2.1.below HB11.out).c2
                  have yf0 := (HF5.out.2.1.below HB11.out).frozen 0
                  have yf1 := (HF5.out.2.1.below HB11.out).frozen 1
                  have yl := (HF5.out.2.1.below HB11.out).lt
                  have hb11' := HB11.out
                  clear hO11 hb11
                  refine hK.out _ _ (fun _ => HSX.out _ HB11.out) ?_
                  clear hK K
                  (try simp only [Act.put, List.setIfInBounds_toArray, List.set_cons_zero, List.set_cons_succ])
                  refine AnyBut.ready (rs := [13]) (by kernel_rfl) (by simp) ?_
                  refine AllBut.cons rfl (fun K hK => ?_) AllBut.nil
                  go_simp
                  refine hK.out _ _ (fun h => absurd rfl h) ?_
                  clear hK K
                  (try simp only [Act.put, List.setIfInBounds_toArray, List.set_cons_zero, List.set_cons_succ])
                  refine AnyBut.done (by kernel_rfl) ?_ _
                  refine NoPanic.normal ?_
                  have HNX : Hid (FS B w1 ((w11.setCell ⟨g, 0, none⟩ (.int .i64 n)).setCell ⟨g, 1, none⟩ (.slice B11 (srtL (F (k + 1))).length d11)) g n (.slice B11 (srtL (F (k + 1))).length d11) (.slice (some ⟨b1, o1, none⟩) T.length dT) (srtL (F (k + 1))) T) := by
                    have h1 := HF5.out.below HB11.out
                    have h2 := HF5.out.1.size
                    exact fs_set h1.1 h1.2.2.1 h1.2.1 (OB.base HO11.out (by have := HF5.out.2.2.1; have := HGL5.out; omega)) h1.2.2.2.2.1 h1.2.2.2.2.2 (fun e => absurd (HO11.out.lt _ e).1 (by have := HGL5.out; omega))
                  clear c0 c1 hgl5 hyl hb9 hz9 hb10 hz10 y0 y1 yf0 yf1 yl hb11'
                  go_wp2
                  go_roundw
                  case rel => exact ⟨k + 1, by omega, by go_num, B11, d11, HNX.out⟩
                  case measure => simp [intOf]; omega
              · go_simp
                refine hK.out _ _ (fun _ => ?_) ?_
                · refine HSX.out _ ?_
                  (repeat' (first | (with_reducible exact Below.refl _ _) | (with_reducible assumption) | (with_reducible refine below_drewN ?_ _) | (with_reducible refine Below.drew ?_) | (with_reducible refine Below.alloc ?_ ?_ _) | (with_reducible refine Below.setCell ?_ ?_ _) | go_size))
                clear hK K
                (try simp only [Act.put, List.setIfInBounds_toArray, List.set_cons_zero, List.set_cons_succ])
                refine AnyBut.ready (rs := [2]) (by kernel_rfl) (by simp) ?_
                refine AllBut.cons rfl (fun K hK => ?_) AllBut.nil
                go_simp
                refine hK.out _ _ (fun _ => ?_) ?_
                · refine HSX.out _ ?_
                  (repeat' (first | (with_reducible exact Below.refl _ _) | (with_reducible assumption) | (with_reducible refine below_drewN ?_ _) | (with_reducible refine Below.drew ?_) | (with_reducible refine Below.alloc ?_ ?_ _) | (with_reducible refine Below.setCell ?_ ?_ _) | go_size))
                clear hK K
                (try simp only [Act.put, List.setIfInBounds_toArray, List.set_cons_zero, List.set_cons_succ])
                refine AnyBut.ready (rs := [5]) (by kernel_rfl) (by simp) ?_
                refine AllBut.cons rfl (fun K hK => ?_) AllBut.nil
                refine step_append_bl _ (by rfl) _ _ (by rfl) w5.heap.size _ (by rfl) HEc.out B2 d2 (srtL (F k)) (by rfl) (HYB.out _ (((below_alloc w5 (.cells #[.int .i64 (nth T k).1, .int .i64 (nth T k).2.1, .int .i64 (nth T k).2.2] 99)).alloc (by simp) (.cells #[] 99)).drew)) HYL.out (by simp; omega) ?_
                intro v9 w9 hO9 hg9
                have HO9 : Hid (w9.ownsRow w5.heap.size 99 3 v9 (srtL (F k)).length (cells3' (srtL (F k)))) := hO9
                have HB9 : Hid (Below w5.heap.size w5 w9) := Below.grown (((below_alloc w5 (.cells #[.int .i64 (nth T k).1, .int .i64 (nth T k).2.1, .int .i64 (nth T k).2.2] 99)).alloc (by simp) (.cells #[] 99)).drew) hg9 (by simp; omega) (own_block HEc.out)
                have HE1 : Hid (Row w9 w5.heap.size 99 #[.int .i64 (nth T k).1, .int .i64 (nth T k).2.1, .int .i64 (nth T k).2.2]) := (hg9.block _ (by simp; omega) (by simp [Value.ownBlock])).trans HRc.out
                have hb9 := HB9.out
                have hz9 := HB9.out.size
                clear hO9 hg9
                refine hK.out _ _ (fun _ => HSX.out _ HB9.out) ?_
                clear hK K
                (try simp only [Act.put, List.setIfInBounds_toArray, List.set_cons_zero, List.set_cons_succ])
                refine AnyBut.ready (rs := [11]) (by kernel_rfl) (by simp) ?_
                refine AllBut.cons rfl (fun K hK => ?_) AllBut.nil
                refine step_append_lies _ (by rfl) _ _ 28 (by rfl) w5.heap.size 99 bi0 (.agg #[.int .i64 0, .int .i64 0, .int .i64 0]) 3 24 Try.underlying28 hbi hbi0 hbi1 hbi2 rfl (by decide) _ _ _ (by rfl) HO9.out ⟨w5.heap.size, 0, none⟩ 1 1 [.int .i64 (nth T k).1, .int .i64 (nth T k).2.1, .int .i64 (nth T k).2.2] (by rfl) rfl (World.news_of_block HE1.out) (by simp [Value.oneCell']) (by omega) (by unfold maxLen; omega) (by omega) (by omega) w9.heap.size rfl ?_
                intro g10 cap10 w10 hO10 hg10 _ hlt10
                have HO10 : Hid (OB w10 w5.heap.size (.slice (some ⟨g10, 0, none⟩) ((srtL (F k)).length + 1) cap10) (srtL (F k) ++ [nth T k])) := OB.snoc hO10
                have HB10 : Hid (Below w5.heap.size w5 w10) := HB9.out.grown hg10 HB9.out.size (own_block HO9.out)
                have hb10 := HB10.out
                have hz10 := HB10.out.size
                clear hO10 hg10
                refine hK.out _ _ (fun _ => HSX.out _ HB10.out) ?_
                clear hK K
                (try simp only [Act.put, List.setIfInBounds_toArray, List.set_cons_zero, List.set_cons_succ])
                refine AnyBut.ready (rs := [12]) (by kernel_rfl) (by simp) ?_
                refine AllBut.cons rfl (fun K hK => ?_) AllBut.nil
                rw [if_pos (by rfl)]
                go_simp
                refine (HMADE.out _ _ _ HO10.out.bl).mono ?_
                rintro e w11 ⟨u11, rfl, hO11, hb11⟩
                obtain ⟨B11, d11, rfl⟩ := own_slice hO11
                have HB11 : Hid (Below w5.heap.size w5 w11) := below_up HB10.out hb11
                have HO11 : Hid (OB w11 w5.heap.size (.slice B11 (srtL (F (k + 1))).length d11) (srtL (F (k + 1)))) := OB.base hO11 HB10.out.size
                obtain ⟨y0, y1⟩ := (HF5.out.2.1.below HB11.out).c2
                have yf0 := (HF5.out.2.1.below HB11.out).frozen 0
                have yf1 := (HF5.out.2.1.below HB11.out).frozen 1
                have yl := (HF5.out.2.1.below HB11.out).lt
                have hb11' := HB11.out
                clear hO11 hb11
                refine hK.out _ _ (fun _ => HSX.out _ HB11.out) ?_
                clear hK K
                (try simp only [Act.put, List.setIfInBounds_toArray, List.set_cons_zero, List.set_cons_succ])
                refine AnyBut.ready (rs := [13]) (by kernel_rfl) (by simp) ?_
                refine AllBut.cons rfl (fun K hK => ?_) AllBut.nil
                go_simp
                refine hK.out _ _ (fun h => absurd rfl h) ?_
                clear hK K
                (try simp only [Act.put, List.setIfInBounds_toArray, List.set_cons_zero, List.set_cons_succ])
                refine AnyBut.done (by kernel_rfl) ?_ _
                refine NoPanic.normal ?_
                have HNX : Hid (FS B w1 ((w11.setCell ⟨g, 0, none⟩ (.int .i64 n)).setCell ⟨g, 1, none⟩ (.slice B11 (srtL (F (k + 1))).length d11)) g n (.slice B11 (srtL (F (k + 1))).length d11) (.slice (some ⟨b1, o1, none⟩) T.length dT) (srtL (F (k + 1))) T) := by
                  have h1 := HF5.out.below HB11.out
                  have h2 := HF5.out.1.size
                  exact fs_set h1.1 h1.2.2.1 h1.2.1 (OB.base HO11.out (by have := HF5.out.2.2.1; have := HGL5.out; omega)) h1.2.2.2.2.1 h1.2.2.2.2.2 (fun e => absurd (HO11.out.lt _ e).1 (by have := HGL5.out; omega))
                clear c0 c1 hgl5 hyl hb9 hz9 hb10 hz10 y0 y1 yf0 yf1 yl hb11'
                go_wp2
                go_roundw
                case rel => exact ⟨k + 1, by omega, by go_num, B11, d11, HNX.out⟩
                case measure => simp [intOf]; omega
        · obtain rfl : k = T.length := by omega
          clear hFS
          have HRX := Lib.hid ((HRR1.out.below (HBE.out ▸ HFK.out.1)))
          obtain ⟨e0, e1⟩ := HRX.out.c2
          have f0 := HRX.out.frozen 0
          have f1 := HRX.out.frozen 1
          have hel := HRX.out.lt
          obtain ⟨k0, k1⟩ := HRX.out.put2 (.int .i64 n) (.slice B2 (srtL (F T.length)).length d2)
          have HOF : Hid (∀ X Y, OB ((wr.setCell ⟨w.heap.size + 1, 0, none⟩ X).setCell ⟨w.heap.size + 1, 1, none⟩ Y) w.heap.size (.slice B2 (srtL (F T.length)).length d2) (srtL (F T.length))) := fun X Y => (HFK.out.2.2.2.1.keep2 (g := w.heap.size + 1) (by have := HSZ1.out; have := HBE.out; omega) X Y).base (by have := HSZ1.out; have := HBE.out; omega)
          have HBF : Hid (Below w.heap.size w wr) := HW1.out.trans (HFK.out.1.mono (by have := HSZ1.out; have := HBE.out; omega))
          go_wp2
          (try simp only [Exit.inBlock, Exit.then])
          refine bodyPost_ret (by simp [results, Try.results47, go_sem, k0, k1]; try rfl) rfl ?_
          exact LPB.mk (HOF.out _ _) (by rw [HN.out]) (by rw [HN.out]) (by rw [HN.out]) ((HBF.out.setCell (Nat.le_succ _) _).setCell (Nat.le_succ _) _)

end Go.Proofs.Ytbknpflbafjblaa

/- How long the result of FillSystem may be; conditions: none. -/
namespace Go.Proofs.Ytbknpflbafjblaa
open Go.RowKit

theorem filR_bd (v : Int) (xs : List Blk) : (filR v xs).2.1.length ≤ 4000 := by
  unfold filR
  split
  · rename_i h
    have hs := isSysB_iff.1 h
    have h1 := hs.2.1
    have hv := hs.1
    have h2 := triL_len (freeB xs) (n := v.toNat) (by omega)
    have h3 := fillK_len xs (triL (freeB xs) v.toNat) (triL (freeB xs) v.toNat).length
    show (srtL _).length ≤ 4000
    rw [srt_len]
    omega
  · simp

end Go.Proofs.Ytbknpflbafjblaa
