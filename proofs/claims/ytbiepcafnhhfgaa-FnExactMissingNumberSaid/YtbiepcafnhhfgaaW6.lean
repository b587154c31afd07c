/- Contracts: slices.Index, slices.Contains over numbers; conditions: stated in each. -/
import Derived.Test.YtbiepcafnhhfgaaW1
namespace Go.Proofs.Ytbiepcafnhhfgaa
open Go.RowKit
set_option maxHeartbeats 400000

theorem idxFrom_step {xs : List Int} {x : Int} {k : Nat} (h : k < xs.length) : idxFrom xs x (xs.length - k) k = if x = nthI xs k then (k : Int) else idxFrom xs x (xs.length - (k + 1)) (k + 1) := by
  rw [show xs.length - k = (xs.length - (k + 1)) + 1 by omega, idxFrom]

theorem slicesIndex_any (A : Option Addr) (c : Nat) (xs : List Int) (x : Int) (w : World) (hA : Il w A xs) (hl : xs.length ≤ 1048576) :
    Calls Try.prog 120 #[.slice A xs.length c, .int .i64 x] w fun e w' => e = .returned (.int .i64 (idxI xs x)) ∧ w = w' := by
  have HA := Lib.hid hA; clear hA
  go_enter Try.func120, Try.ntmps120
  go_wp2
  go_loop [8] (fun i => ∃ k : Nat, k ≤ xs.length ∧ i = .int .i64 k ∧ Hid (idxI xs x = idxFrom xs x (xs.length - k) k)) (fun i => xs.length - (intOf i).toNat)
  case atStart => exact ⟨0, by omega, rfl, rfl⟩
  case round =>
    obtain ⟨k, hk, rfl, HC⟩ := hrel
    by_cases hlt : k < xs.length
    · obtain ⟨b1, o1, hA1, hb1, p0⟩ := HA.out.at_ hlt
      subst hA1
      have HS : Hid _ := idxFrom_step (x := x) hlt
      by_cases he : x = nthI xs k
      · have he' : (x == nthI xs k) = true := by simpa using he
        have HE := Lib.hid he; clear he
        go_wp2
        go_ret
        refine ⟨ret_int ?_, rfl⟩
        rw [HC.out, HS.out, if_pos HE.out]
      · have he' : (x == nthI xs k) = false := by simpa using he
        have HE := Lib.hid he; clear he
        go_wp2
        go_round
        case rel => exact ⟨k + 1, by omega, by go_num, by unfold Hid; rw [HC.out, HS.out, if_neg HE.out]⟩
        case measure => simp [intOf]; omega
    · obtain rfl : k = xs.length := by omega
      go_wp2
      go_ret
      refine ⟨ret_int ?_, rfl⟩
      rw [HC.out, Nat.sub_self]; rfl

theorem slicesContains_any (A : Option Addr) (c : Nat) (xs : List Int) (x : Int) (w : World) (hA : Il w A xs) (hl : xs.length ≤ 1048576) :
    Calls Try.prog 95 #[.slice A xs.length c, .int .i64 x] w fun e w' => e = .returned (.bool (decide (idxI xs x ≥ 0))) ∧ w = w' := by
  have HA := Lib.hid hA; clear hA
  go_enter Try.func95, Try.ntmps95
  go_wp2_with (go_at_call 120; refine (slicesIndex_any A c xs x _ HA.out hl).mono ?_; rintro e w' ⟨rfl, rfl⟩)
  go_ret
  exact ⟨ret_bool rfl, rfl⟩

end Go.Proofs.Ytbiepcafnhhfgaa
