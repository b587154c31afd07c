/- Contracts of small functions over blocks and numbers; conditions: stated in each. -/
import Derived.Test.YtpdkkbimhhhjmaaM0
namespace Go.Proofs.Ytpdkkbimhhhjmaa
open Go.RowKit
set_option maxHeartbeats 400000

theorem within_any (n lo hi : Int) (w : World) :
    Calls Try.prog 56 #[.int .i64 n, .int .i64 lo, .int .i64 hi] w fun e w' => e = .returned (.bool (decide (lo ≤ n ∧ n ≤ hi))) ∧ w = w' := by
  go_enter Try.func56, Try.ntmps56
  go_wp2
  all_goals go_ret
  all_goals exact ⟨ret_bool (by simp; omega), rfl⟩

theorem l01In_any (n lo hi : Int) (w : World) :
    Calls Try.prog 52 #[.int .i64 n, .int .i64 lo, .int .i64 hi] w fun e w' => e = .returned (.bool (decide (lo ≤ n ∧ n ≤ hi))) ∧ w = w' := by
  go_enter Try.func52, Try.ntmps52
  go_wp2
  all_goals go_ret
  all_goals exact ⟨ret_bool (by simp; omega), rfl⟩

theorem eqBlock_any (a b : Blk) (w : World) :
    Calls Try.prog 111 #[.agg #[.int .i64 a.1, .int .i64 a.2.1, .int .i64 a.2.2], .agg #[.int .i64 b.1, .int .i64 b.2.1, .int .i64 b.2.2]] w fun e w' => e = .returned (.bool (eqB a b)) ∧ Below w.heap.size w w' := by
  obtain ⟨a0, a1, a2⟩ := a; obtain ⟨b0, b1, b2⟩ := b; unfold eqB; simp only [Prod.mk.injEq]
  go_enter Try.func111, Try.ntmps111
  go_wp2
  refine wp_loop_rounds 4 ?_
  rw [rounds_succ]; go_wp2; go_quiet (fail); go_wp2
  rotate_left; rw [rounds_succ]; go_wp2; go_quiet (fail); go_wp2
  rotate_left; rw [rounds_succ]; go_wp2; go_quiet (fail); go_wp2
  rotate_left; rw [rounds_succ]; go_wp2
  all_goals go_returns
  all_goals refine ⟨ret_bool ?_, ?_⟩
  all_goals first | ((repeat' (first | (with_reducible exact Below.refl _ _) | (with_reducible assumption) | (with_reducible refine below_drewN ?_ _) | (with_reducible refine Below.drew ?_) | (with_reducible refine Below.alloc ?_ ?_ _) | (with_reducible refine Below.setCell ?_ ?_ _) | go_size)); done) | (first | rfl | (simp_all; done) | (rw [Bool.eq_iff_iff]; simp_all; done) | (rw [Bool.eq_iff_iff]; simp; omega) | (rw [Bool.eq_iff_iff]; simp_all; omega))

theorem l01Before_any (a b : Blk) (w : World) :
    Calls Try.prog 102 #[.agg #[.int .i64 a.1, .int .i64 a.2.1, .int .i64 a.2.2], .agg #[.int .i64 b.1, .int .i64 b.2.1, .int .i64 b.2.2]] w fun e w' => e = .returned (.bool (befB a b)) ∧ Below w.heap.size w w' := by
  obtain ⟨a0, a1, a2⟩ := a; obtain ⟨b0, b1, b2⟩ := b; unfold befB; dsimp only
  go_enter Try.func102, Try.ntmps102
  go_wp2
  refine wp_loop_rounds 4 ?_
  rw [rounds_succ]; go_wp2; go_quiet (fail); go_wp2
  rotate_left; rw [rounds_succ]; go_wp2; go_quiet (fail); go_wp2
  rotate_left; rw [rounds_succ]; go_wp2; go_quiet (fail); go_wp2
  rotate_left; rw [rounds_succ]; go_wp2
  all_goals try (go_quiet (fail); go_wp2)
  all_goals go_returns
  all_goals refine ⟨ret_bool ?_, ?_⟩
  all_goals first | ((repeat' (first | (with_reducible exact Below.refl _ _) | (with_reducible assumption) | (with_reducible refine below_drewN ?_ _) | (with_reducible refine Below.drew ?_) | (with_reducible refine Below.alloc ?_ ?_ _) | (with_reducible refine Below.setCell ?_ ?_ _) | go_size)); done) | (first | rfl | (simp_all; done) | (rw [Bool.eq_iff_iff]; simp_all; done) | (rw [Bool.eq_iff_iff]; simp; omega) | (rw [Bool.eq_iff_iff]; simp_all; omega))

theorem l01Good_any (v : Int) (b : Blk) (w : World) :
    Calls Try.prog 101 #[.int .i64 v, .agg #[.int .i64 b.1, .int .i64 b.2.1, .int .i64 b.2.2]] w fun e w' => e = .returned (.bool (goodB v b)) ∧ Below w.heap.size w w' := by
  obtain ⟨b0, b1, b2⟩ := b; unfold goodB; dsimp only
  go_enter Try.func101, Try.ntmps101
  go_wp2
  all_goals go_ret
  all_goals refine ⟨ret_bool ?_, ?_⟩
  all_goals first | ((repeat' (first | (with_reducible exact Below.refl _ _) | (with_reducible assumption) | (with_reducible refine below_drewN ?_ _) | (with_reducible refine Below.drew ?_) | (with_reducible refine Below.alloc ?_ ?_ _) | (with_reducible refine Below.setCell ?_ ?_ _) | go_size)); done) | (first | rfl | (simp_all; done) | (rw [Bool.eq_iff_iff]; simp_all; done) | (rw [Bool.eq_iff_iff]; simp; omega) | (rw [Bool.eq_iff_iff]; simp_all; omega))

theorem l01With_any (b : Blk) (p : Int) (w : World) :
    Calls Try.prog 112 #[.agg #[.int .i64 b.1, .int .i64 b.2.1, .int .i64 b.2.2], .int .i64 p] w fun e w' => e = .returned (.bool (hasB b p)) ∧ Below w.heap.size w w' := by
  obtain ⟨b0, b1, b2⟩ := b; unfold hasB; dsimp only
  go_enter Try.func112, Try.ntmps112
  go_wp2
  all_goals go_ret
  all_goals refine ⟨ret_bool ?_, ?_⟩
  all_goals first | ((repeat' (first | (with_reducible exact Below.refl _ _) | (with_reducible assumption) | (with_reducible refine below_drewN ?_ _) | (with_reducible refine Below.drew ?_) | (with_reducible refine Below.alloc ?_ ?_ _) | (with_reducible refine Below.setCell ?_ ?_ _) | go_size)); done) | (first | rfl | (simp_all; done) | (rw [Bool.eq_iff_iff]; simp_all; done) | (rw [Bool.eq_iff_iff]; simp; omega) | (rw [Bool.eq_iff_iff]; simp_all; omega))

theorem has_any (b : Blk) (p : Int) (w : World) :
    Calls Try.prog 64 #[.agg #[.int .i64 b.1, .int .i64 b.2.1, .int .i64 b.2.2], .int .i64 p] w fun e w' => e = .returned (.bool (hasB b p)) ∧ Below w.heap.size w w' := by
  obtain ⟨b0, b1, b2⟩ := b; unfold hasB; dsimp only
  go_enter Try.func64, Try.ntmps64
  go_wp2
  all_goals go_ret
  all_goals refine ⟨ret_bool ?_, ?_⟩
  all_goals first | ((repeat' (first | (with_reducible exact Below.refl _ _) | (with_reducible assumption) | (with_reducible refine below_drewN ?_ _) | (with_reducible refine Below.drew ?_) | (with_reducible refine Below.alloc ?_ ?_ _) | (with_reducible refine Below.setCell ?_ ?_ _) | go_size)); done) | (first | rfl | (simp_all; done) | (rw [Bool.eq_iff_iff]; simp_all; done) | (rw [Bool.eq_iff_iff]; simp; omega) | (rw [Bool.eq_iff_iff]; simp_all; omega))

theorem isNaN_any (n : Int) (w : World) :
    Calls Try.prog 142 #[.int .i64 n] w fun e w' => e = .returned (.bool false) ∧ w = w' := by
  go_enter Try.func142, Try.ntmps142
  go_wp2
  go_ret
  exact ⟨ret_bool (by simp), rfl⟩

theorem cmpCompare_any (a b : Int) (w : World) :
    Calls Try.prog 141 #[.int .i64 a, .int .i64 b] w fun e w' => e = .returned (.int .i64 (cmpI a b)) ∧ w = w' := by
  go_enter Try.func141, Try.ntmps141
  go_wp2_with (go_at_call 142; refine (isNaN_any _ _).mono ?_; rintro e w' ⟨rfl, rfl⟩)
  all_goals go_ret
  all_goals refine ⟨ret_int ?_, rfl⟩
  all_goals unfold cmpI
  all_goals (repeat' split) <;> omega

end Go.Proofs.Ytpdkkbimhhhjmaa
