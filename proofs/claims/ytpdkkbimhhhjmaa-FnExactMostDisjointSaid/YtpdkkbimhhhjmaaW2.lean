/- Contracts over blocks by loops: l01Common, slices.Compare, compare, rises, isBlock; conditions: stated in each. -/
import Derived.Test.YtpdkkbimhhhjmaaW1
namespace Go.Proofs.Ytpdkkbimhhhjmaa
open Go.RowKit
set_option maxHeartbeats 400000

theorem l01Common_any (a b : Blk) (w : World) :
    Calls Try.prog 129 #[.agg #[.int .i64 a.1, .int .i64 a.2.1, .int .i64 a.2.2], .agg #[.int .i64 b.1, .int .i64 b.2.1, .int .i64 b.2.2]] w fun e w' => e = .returned (.int .i64 (comI a b)) ∧ Below w.heap.size w w' := by
  go_enter Try.func129, Try.ntmps129
  go_wp2
  have hA0 := (Box.new w a 72).below (below_alloc _ (.cells #[.int .i64 b.1, .int .i64 b.2.1, .int .i64 b.2.2] 72))
  have hB0 := Box.new (w.alloc (.cells #[.int .i64 a.1, .int .i64 a.2.1, .int .i64 a.2.2] 72)) b 72
  have hW0 := below_up (below_alloc w (.cells #[.int .i64 a.1, .int .i64 a.2.1, .int .i64 a.2.2] 72)) (below_alloc _ (.cells #[.int .i64 b.1, .int .i64 b.2.1, .int .i64 b.2.2] 72))
  rw [World.size_alloc] at hB0
  generalize (w.alloc _).alloc _ = W at *
  have HA := Lib.hid hA0; have HB := Lib.hid hB0; have HW := Lib.hid hW0; clear hA0 hB0 hW0
  go_loopw [5, 6] (fun c i wr => ∃ k : Nat, k ≤ 3 ∧ i = .int .i64 k ∧ c = .int .i64 (comN a b (3 * k)) ∧ Below W.heap.size W wr) (fun _ i _ => 3 - (intOf i).toNat)
  case atStart => exact ⟨0, by omega, rfl, rfl, Below.refl _ _⟩
  case round =>
    obtain ⟨k, hk, rfl, rfl, hb⟩ := hrel
    by_cases hlt : k < 3
    · go_wp2
      obtain ⟨wo, rfl⟩ : ∃ wo : World, wo = wr := ⟨_, rfl⟩
      go_loopw [5, 7] (fun c i wr => ∃ j : Nat, j ≤ 3 ∧ i = .int .i64 j ∧ c = .int .i64 (comN a b (3 * k + j)) ∧ Below W.heap.size W wr) (fun _ i _ => 3 - (intOf i).toNat)
      case atStart => exact ⟨0, by omega, rfl, rfl, hb⟩
      case round =>
        obtain ⟨j, hj, rfl, rfl, hb⟩ := hrel
        by_cases hlt2 : j < 3
        · have p0 := (HA.out.below hb).2 k hlt
          have q0 := (HB.out.below hb).2 j hlt2
          have cb := comN_bd a b (3 * k + j)
          go_wp2
          go_quiet (fail)
          go_wp2
          all_goals
            have hs := comN_step a b k j hlt2
            simp_all [one]
          all_goals
            refine ⟨⟨j + 1, by omega, by omega, by omega, below_drewN hb _⟩, by simp [intOf]; omega⟩
        · obtain rfl : j = 3 := by omega
          go_wp2
          go_roundw
          case rel => exact ⟨k + 1, by omega, by go_num, rfl, hb⟩
          case measure => simp [intOf]; omega
    · obtain rfl : k = 3 := by omega
      go_wp2
      go_ret
      exact ⟨ret_int (comN_nine a b), below_up HW.out hb⟩

theorem slicesCompare_any (A B : Option Addr) (c d : Nat) (xs ys : List Int) (w : World) (hA : Il w A xs) (hB : Il w B ys) (hlx : xs.length ≤ 1048576) (hly : ys.length ≤ 1048576) :
    Calls Try.prog 140 #[.slice A xs.length c, .slice B ys.length d] w fun e w' => e = .returned (.int .i64 (cmpL xs ys)) ∧ w = w' := by
  go_enter Try.func140, Try.ntmps140
  go_wp2
  have HA := Lib.hid hA; have HB := Lib.hid hB; clear hA hB
  go_loop [11] (fun i => ∃ k : Nat, k ≤ xs.length ∧ k ≤ ys.length ∧ i = .int .i64 k ∧ Hid (cmpL xs ys = cmpL (xs.drop k) (ys.drop k))) (fun i => xs.length - (intOf i).toNat)
  case atStart => exact ⟨0, by omega, by omega, rfl, rfl⟩
  case round =>
    obtain ⟨k, hk, hk', rfl, HC⟩ := hrel
    by_cases hlt : k < xs.length
    · obtain ⟨b1, o1, hA1, hb1, p0⟩ := HA.out.at_ hlt
      subst hA1
      by_cases hlt' : k < ys.length
      · obtain ⟨b2, o2, hA2, hb2, q0⟩ := HB.out.at_ hlt'
        subst hA2
        have HC' : Hid (cmpL xs ys = if nthI xs k < nthI ys k then -1 else if nthI ys k < nthI xs k then 1 else cmpL (xs.drop (k + 1)) (ys.drop (k + 1))) := by
          unfold Hid; rw [HC.out, drop_cons hlt, drop_cons hlt']; rfl
        go_wp2_with (go_at_call 141; refine (cmpCompare_any _ _ _).mono ?_; rintro e w' ⟨rfl, rfl⟩)
        · go_ret
          rename_i hc
          refine ⟨ret_int ?_, rfl⟩
          rw [HC'.out]
          unfold cmpI at *
          (repeat' split) <;> simp_all
        · go_round
          case rel =>
            refine ⟨k + 1, by omega, by omega, by go_num, ?_⟩
            unfold Hid; rw [HC'.out]
            unfold cmpI at *
            (repeat' split) <;> simp_all
          case measure => simp [intOf]; omega
      · obtain rfl : k = ys.length := by omega
        go_wp2
        go_ret
        refine ⟨ret_int ?_, rfl⟩
        rw [HC.out, drop_cons hlt, List.drop_length]; rfl
    · obtain rfl : k = xs.length := by omega
      by_cases hlt' : xs.length < ys.length
      · go_wp2
        go_ret
        refine ⟨ret_int ?_, rfl⟩
        rw [HC.out, drop_cons hlt', List.drop_length]; rfl
      · have he : ys.length ≤ xs.length := by omega
        go_wp2
        go_ret
        refine ⟨ret_int ?_, rfl⟩
        rw [HC.out, List.drop_length, List.drop_eq_nil_of_le he]; rfl

theorem rises_any (A : Option Addr) (c : Nat) (xs : List Int) (n : Int) (w : World) (hA : Il w A xs) (hlx : xs.length ≤ 1048576) (hn0 : 0 ≤ n) (hn1 : n ≤ 1048576) :
    Calls Try.prog 124 #[.slice A xs.length c, .int .i64 n] w fun e w' => e = .returned (.bool (risesB xs n)) ∧ w = w' := by
  go_enter Try.func124, Try.ntmps124
  go_wp2
  have HA := Lib.hid hA; clear hA
  go_loop [9] (fun i => ∃ k : Nat, k ≤ xs.length ∧ i = .int .i64 k ∧ Hid (∀ j, j < k → (0 ≤ nthI xs j ∧ nthI xs j ≤ n - 1) ∧ (0 < j → nthI xs (j - 1) < nthI xs j))) (fun i => xs.length - (intOf i).toNat)
  case atStart => exact ⟨0, by omega, rfl, fun j hj => by omega⟩
  case round =>
    obtain ⟨k, hk, rfl, HC⟩ := hrel
    by_cases hlt : k < xs.length
    · obtain ⟨b1, o1, hA1, hb1, p0⟩ := HA.out.at_ hlt
      subst hA1
      by_cases hin : 0 ≤ nthI xs k ∧ nthI xs k ≤ n - 1
      · by_cases hk0 : 0 < k
        · obtain ⟨b2, o2, hA2, hb2, q0⟩ := HA.out.at_ (k := k - 1) (by omega)
          simp only [Option.some.injEq, Addr.mk.injEq] at hA2
          obtain ⟨rfl, rfl, -⟩ := hA2
          by_cases hlo : nthI xs (k - 1) < nthI xs k
          · go_wp2_with (go_at_call 56; refine (within_any _ _ _ _).mono ?_; rintro e w' ⟨rfl, rfl⟩)
            go_round
            case rel =>
              refine ⟨k + 1, by omega, by go_num, fun j hj => ?_⟩
              by_cases hjk : j < k
              · exact HC.out j hjk
              · obtain rfl : j = k := by omega
                exact ⟨hin, fun _ => hlo⟩
            case measure => simp [intOf]; omega
          · have hlo' : nthI xs k ≤ nthI xs (k - 1) := by omega
            go_wp2_with (go_at_call 56; refine (within_any _ _ _ _).mono ?_; rintro e w' ⟨rfl, rfl⟩)
            go_ret
            exact ⟨ret_bool (risesB_false fun h => absurd ((h k hlt).2 hk0) (by omega)).symm, rfl⟩
        · obtain rfl : k = 0 := by omega
          rw [Nat.add_zero] at p0
          go_wp2_with (go_at_call 56; refine (within_any _ _ _ _).mono ?_; rintro e w' ⟨rfl, rfl⟩)
          go_round
          case rel =>
            refine ⟨1, by omega, rfl, fun j hj => ?_⟩
            obtain rfl : j = 0 := by omega
            exact ⟨hin, fun h => by omega⟩
          case measure => simp [intOf]; omega
      · have hin' : decide (0 ≤ nthI xs k ∧ nthI xs k ≤ n - 1) = false := by simpa using hin
        go_wp2_with (go_at_call 56; refine (within_any _ _ _ _).mono ?_; rintro e w' ⟨rfl, rfl⟩)
        go_ret
        exact ⟨ret_bool (risesB_false fun h => absurd (h k hlt).1 (by simpa using hin')).symm, rfl⟩
    · obtain rfl : k = xs.length := by omega
      go_wp2
      go_ret
      exact ⟨ret_bool (risesB_true HC.out).symm, rfl⟩

theorem isBlock_any (b : Blk) (v : Int) (w : World) (hn0 : 0 ≤ v) (hn1 : v ≤ 1048576) :
    Calls Try.prog 130 #[.agg #[.int .i64 b.1, .int .i64 b.2.1, .int .i64 b.2.2], .int .i64 v] w fun e w' => e = .returned (.bool (goodB v b)) ∧ Below w.heap.size w w' := by
  have hA := (Box.new w b 72).il
  go_enter Try.func130, Try.ntmps130
  go_wp2_with (go_at_call 124; refine (rises_any (some ⟨w.heap.size, 0, none⟩) 3 (lst b) v _ hA (by simp [lst]) hn0 hn1).mono ?_; rintro e w' ⟨rfl, rfl⟩)
  go_ret
  exact ⟨ret_bool (risesB_lst b v), below_alloc _ _⟩

end Go.Proofs.Ytpdkkbimhhhjmaa
