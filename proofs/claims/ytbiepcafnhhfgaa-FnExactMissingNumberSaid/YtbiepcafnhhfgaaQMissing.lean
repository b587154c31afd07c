/- Contracts for MissingNumber, of the reference and of the program; conditions: stated in each. -/
import Derived.Test.YtbiepcafnhhfgaaW5
import Derived.Test.YtbiepcafnhhfgaaW6
import Derived.Test.YtbiepcafnhhfgaaM2
namespace Go.Proofs.Ytbiepcafnhhfgaa
open Go.RowKit
set_option maxHeartbeats 400000
set_option linter.unusedSimpArgs false
set_option linter.unusedVariables false

def told (v : Int) : Bool := decide (v = 3 ∨ v = 7 ∨ v = 9 ∨ v = 13 ∨ v = 15)
def missN (v : Int) (n : Nat) : Int := v * (v - 1) / 6 - n

theorem sq_bd {v : Int} (h0 : 3 ≤ v) (h1 : v ≤ 15) : 0 ≤ v * (v - 1) ∧ v * (v - 1) ≤ 210 := by
  obtain rfl | rfl | rfl | rfl | rfl | rfl | rfl | rfl | rfl | rfl | rfl | rfl | rfl : v = 3 ∨ v = 4 ∨ v = 5 ∨ v = 6 ∨ v = 7 ∨ v = 8 ∨ v = 9 ∨ v = 10 ∨ v = 11 ∨ v = 12 ∨ v = 13 ∨ v = 14 ∨ v = 15 := by omega
  all_goals decide

theorem l08Missing_any (v : Int) (A : Option Addr) (c n : Nat) (w : World) (h0 : 3 ≤ v) (h1 : v ≤ 15) (hn : n ≤ 1048576) :
    Calls Try.prog 50 #[.agg #[.int .i64 v, .slice A n c]] w fun e w' => e = .returned (.tuple #[.int .i64 (missN v n), .bool (told v)]) ∧ Below w.heap.size w w' := by
  obtain rfl | rfl | rfl | rfl | rfl | rfl | rfl | rfl | rfl | rfl | rfl | rfl | rfl : v = 3 ∨ v = 4 ∨ v = 5 ∨ v = 6 ∨ v = 7 ∨ v = 8 ∨ v = 9 ∨ v = 10 ∨ v = 11 ∨ v = 12 ∨ v = 13 ∨ v = 14 ∨ v = 15 := by omega
  all_goals
    clear h0 h1
    go_enter Try.func50, Try.ntmps50
    go_wp2
    go_ret2
    exact ⟨ret_ib (by simp [missN]) (by simp [told]), below_alloc _ _⟩

/-- what MissingNumber gives: a number and a code -/
noncomputable def missR (v : Int) (xs : List Blk) : Int × Int := if isSysB v xs = true then (if told v = true then (missN v xs.length, 0) else (0, 5)) else (0, 1)
theorem missR_bad {v : Int} {xs : List Blk} (h : isSysB v xs = false) : missR v xs = (0, 1) := by simp [missR, h]
theorem missR_not {v : Int} {xs : List Blk} (h : isSysB v xs = true) (ht : told v = false) : missR v xs = (0, 5) := by simp [missR, h, ht]
theorem missR_yes {v : Int} {xs : List Blk} (h : isSysB v xs = true) (ht : told v = true) : missR v xs = (missN v xs.length, 0) := by simp [missR, h, ht]

theorem specMissing_any (v : Int) (A : Option Addr) (c : Nat) (xs : List Blk) (w : World) (hA : Bl w A xs) (hl : xs.length ≤ 1048576) :
    Calls Try.prog 16 #[.agg #[.int .i64 v, .slice A xs.length c]] w fun e w' => e = .returned (.tuple #[.int .i64 (missR v xs).1, .int .i64 (missR v xs).2]) ∧ Below w.heap.size w w' := by
  have HA := Lib.hid hA; clear hA
  by_cases hs : isSysB v xs = true
  · obtain ⟨⟨h0, h1⟩, h35, _⟩ := isSysB_iff.1 hs
    by_cases ht : told v = true
    · have hr := Lib.hid (missR_yes hs ht)
      go_enter Try.func16, Try.ntmps16
      go_wp2_with fail
      refine (l01Is_any v A c xs _ (HA.out.below (below_alloc _ _)) hl).mono ?_
      rintro e w1 ⟨rfl, hb⟩
      obtain ⟨hc1, hf1⟩ := old_cells hb
      have HB := Lib.hid (below_up (below_alloc _ _) hb); clear hb
      go_wp2_with fail
      refine (l08Missing_any v A c xs.length _ h0 h1 hl).mono ?_
      rintro e w2 ⟨rfl, hb2⟩
      have HB2 := Lib.hid (below_up HB.out hb2); clear hb2
      go_wp2
      go_ret2
      rw [hr.out]
      exact ⟨rfl, HB2.out⟩
    · have ht' : told v = false := by simpa using ht
      have hr := Lib.hid (missR_not hs ht')
      clear ht
      go_enter Try.func16, Try.ntmps16
      go_wp2_with fail
      refine (l01Is_any v A c xs _ (HA.out.below (below_alloc _ _)) hl).mono ?_
      rintro e w1 ⟨rfl, hb⟩
      obtain ⟨hc1, hf1⟩ := old_cells hb
      have HB := Lib.hid (below_up (below_alloc _ _) hb); clear hb
      go_wp2_with fail
      refine (l08Missing_any v A c xs.length _ h0 h1 hl).mono ?_
      rintro e w2 ⟨rfl, hb2⟩
      have HB2 := Lib.hid (below_up HB.out hb2); clear hb2
      go_wp2
      go_ret2
      rw [hr.out]
      exact ⟨rfl, HB2.out⟩
  · have hs' : isSysB v xs = false := by simpa using hs
    have hr := Lib.hid (missR_bad hs')
    clear hs
    go_enter Try.func16, Try.ntmps16
    go_wp2_with fail
    refine (l01Is_any v A c xs _ (HA.out.below (below_alloc _ _)) hl).mono ?_
    rintro e w1 ⟨rfl, hb⟩
    have HB := Lib.hid (below_up (below_alloc _ _) hb); clear hb
    go_wp2
    go_ret2
    rw [hr.out]
    exact ⟨rfl, HB.out⟩

theorem missing_any (v : Int) (A : Option Addr) (c n : Nat) (w : World) (h0 : 3 ≤ v) (h1 : v ≤ 15) (hn : n ≤ 1048576) :
    Calls Try.prog 53 #[.agg #[.int .i64 v, .slice A n c]] w fun e w' => e = .returned (.tuple #[.int .i64 (if told v = true then missN v n else 0), .int .i64 (if told v = true then 0 else 5)]) ∧ Below w.heap.size w w' := by
  obtain rfl | rfl | rfl | rfl | rfl | rfl | rfl | rfl | rfl | rfl | rfl | rfl | rfl : v = 3 ∨ v = 4 ∨ v = 5 ∨ v = 6 ∨ v = 7 ∨ v = 8 ∨ v = 9 ∨ v = 10 ∨ v = 11 ∨ v = 12 ∨ v = 13 ∨ v = 14 ∨ v = 15 := by omega
  all_goals
    clear h0 h1
    go_enter Try.func53, Try.ntmps53
    go_wp2_with fail
    refine (slicesContains_any (some ⟨w.heap.size + 1, 0, none⟩) 5 [3, 7, 9, 13, 15] _ _ (Il.new1 w _ [3, 7, 9, 13, 15] 2) (by simp)).mono ?_
    rintro e w1 ⟨rfl, rfl⟩
    simp only [idxI, idxFrom, nthI, List.length_cons, List.length_nil, List.getD_cons_zero, List.getD_cons_succ, Nat.reduceAdd, Int.reduceEq, if_false, if_true, Int.reduceNeg, ge_iff_le, Int.reduceLE, decide_true, decide_false]
    go_wp2
    go_ret2
    exact ⟨ret_ii (by simp [missN, told]) (by simp [told]), by go_grown⟩

theorem implMissing_any (v : Int) (A : Option Addr) (c : Nat) (xs : List Blk) (w : World) (hA : Bl w A xs) (hl : xs.length ≤ 1048576) :
    Calls Try.prog 18 #[.agg #[.int .i64 v, .slice A xs.length c]] w fun e w' => e = .returned (.tuple #[.int .i64 (missR v xs).1, .int .i64 (missR v xs).2]) ∧ Below w.heap.size w w' := by
  have HA := Lib.hid hA; clear hA
  by_cases hs : isSysB v xs = true
  · obtain ⟨⟨h0, h1⟩, h35, _⟩ := isSysB_iff.1 hs
    have hr : Hid (missR v xs = (if told v = true then missN v xs.length else 0, if told v = true then 0 else 5)) := by
      unfold Hid missR; rw [if_pos hs]; split <;> rfl
    go_enter Try.func18, Try.ntmps18
    go_wp2_with fail
    refine (IsSystem_any v A c xs _ (HA.out.below (below_alloc _ _)) hl).mono ?_
    rintro e w1 ⟨rfl, hb⟩
    obtain ⟨hc1, hf1⟩ := old_cells hb
    have HB := Lib.hid (below_up (below_alloc _ _) hb); clear hb
    go_wp2_with fail
    refine (missing_any v A c xs.length _ h0 h1 hl).mono ?_
    rintro e w2 ⟨rfl, hb2⟩
    have HB2 := Lib.hid (below_up HB.out hb2); clear hb2
    go_wp2
    all_goals
      go_ret2
      refine ⟨ret_ii ?_ ?_, HB2.out⟩
      all_goals rw [hr.out]; simp [*]
  · have hs' : isSysB v xs = false := by simpa using hs
    have hr := Lib.hid (missR_bad hs')
    clear hs
    go_enter Try.func18, Try.ntmps18
    go_wp2_with fail
    refine (IsSystem_any v A c xs _ (HA.out.below (below_alloc _ _)) hl).mono ?_
    rintro e w1 ⟨rfl, hb⟩
    have HB := Lib.hid (below_up (below_alloc _ _) hb); clear hb
    go_wp2
    go_ret2
    rw [hr.out]
    exact ⟨rfl, HB.out⟩

end Go.Proofs.Ytbiepcafnhhfgaa
