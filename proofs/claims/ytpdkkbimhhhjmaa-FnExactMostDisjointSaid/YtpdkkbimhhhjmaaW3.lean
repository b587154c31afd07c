/- Contracts: compare, l01Fits, l01Is; conditions: stated in each. -/
import Derived.Test.YtpdkkbimhhhjmaaW2
namespace Go.Proofs.Ytpdkkbimhhhjmaa
open Go.RowKit
set_option maxHeartbeats 400000

theorem compare_any (a b : Blk) (w : World) :
    Calls Try.prog 131 #[.agg #[.int .i64 a.1, .int .i64 a.2.1, .int .i64 a.2.2], .agg #[.int .i64 b.1, .int .i64 b.2.1, .int .i64 b.2.2]] w fun e w' => e = .returned (.int .i64 (cmpB a b)) ∧ Below w.heap.size w w' := by
  go_enter Try.func131, Try.ntmps131
  go_wp2
  have hA0 := (Box.new w a 72).below (below_alloc _ (.cells #[.int .i64 b.1, .int .i64 b.2.1, .int .i64 b.2.2] 72))
  have hB0 := Box.new (w.alloc (.cells #[.int .i64 a.1, .int .i64 a.2.1, .int .i64 a.2.2] 72)) b 72
  have hW0 := below_up (below_alloc w (.cells #[.int .i64 a.1, .int .i64 a.2.1, .int .i64 a.2.2] 72)) (below_alloc _ (.cells #[.int .i64 b.1, .int .i64 b.2.1, .int .i64 b.2.2] 72))
  rw [World.size_alloc] at hB0
  generalize (w.alloc _).alloc _ = W at *
  have HA := Lib.hid hA0; have HB := Lib.hid hB0; have HW := Lib.hid hW0; clear hA0 hB0 hW0
  refine wp_region_ge_lit (by kernel_rfl) (by kernel_rfl) ?_; (repeat (go_big_quiet_step ((go_at_call 140; exact ge_call_same (slicesCompare_any (some ⟨w.heap.size, 0, none⟩) (some ⟨w.heap.size + 1, 0, none⟩) 3 3 (lst a) (lst b) _ (HA.out.below (ge_below _ _)).il (HB.out.below (ge_below _ _)).il (by simp [lst]) (by simp [lst])))))); refine wpQuiet_nil ?_
  rintro w1 ⟨x, rfl⟩
  go_wp2
  go_ret
  exact ⟨ret_int rfl, below_up HW.out (ge_below _ _)⟩

theorem l01Fits_any (A : Option Addr) (c : Nat) (xs : List Blk) (w : World) (hA : Bl w A xs) (hl : xs.length ≤ 1048576) :
    Calls Try.prog 103 #[.slice A xs.length c] w fun e w' => e = .returned (.bool (fitsB xs)) ∧ Below w.heap.size w w' := by
  go_enter Try.func103, Try.ntmps103
  go_wp2
  have HA := Lib.hid hA; clear hA
  go_loopw [3] (fun i wr => ∃ k : Nat, k ≤ xs.length ∧ i = .int .i64 k ∧ Below w.heap.size w wr ∧ Hid (∀ i, i < k → ∀ j, j < i → comI (nth xs i) (nth xs j) ≤ 1)) (fun i _ => xs.length - (intOf i).toNat)
  case atStart => exact ⟨0, by omega, rfl, Below.refl _ _, fun i hi => by omega⟩
  case round =>
    obtain ⟨k, hk, rfl, hb, HC⟩ := hrel
    by_cases hlt : k < xs.length
    · go_wp2
      obtain ⟨wo, rfl⟩ : ∃ wo : World, wo = wr := ⟨_, rfl⟩
      go_loopw [4] (fun i wr => ∃ j : Nat, j ≤ k ∧ i = .int .i64 j ∧ Below w.heap.size w wr ∧ Hid (∀ i, i < j → comI (nth xs k) (nth xs i) ≤ 1)) (fun i _ => k - (intOf i).toNat)
      case atStart => exact ⟨0, by omega, rfl, hb, fun i hi => by omega⟩
      case round =>
        obtain ⟨j, hj, rfl, hb, HD⟩ := hrel
        by_cases hlt2 : j < k
        · obtain ⟨b1, o1, hA1, hb1, p0, p1, p2⟩ := (HA.out.below hb).at_ hlt
          subst hA1
          obtain ⟨b2, o2, hA2, hb2, q0, q1, q2⟩ := (HA.out.below hb).at_ (k := j) (by omega)
          simp only [Option.some.injEq, Addr.mk.injEq] at hA2
          obtain ⟨rfl, rfl, -⟩ := hA2
          have cb := comI_bd (nth xs k) (nth xs j)
          by_cases hc : comI (nth xs k) (nth xs j) ≤ 1
          · go_wp2
            refine wp_region_ge_lit (by kernel_rfl) (by kernel_rfl) ?_; (repeat (go_big_quiet_step ((go_at_call 129; exact ge_call (l01Common_any (nth xs k) (nth xs j) _))))); refine wpQuiet_nil ?_
            rintro w1 ⟨x, rfl⟩
            go_wp2
            go_roundw
            case rel =>
              refine ⟨j + 1, by omega, by go_num, below_up hb (ge_below _ _), fun i hi => ?_⟩
              by_cases hij : i < j
              · exact HD.out i hij
              · obtain rfl : i = j := by omega
                exact hc
            case measure => simp [intOf]; omega
          · have hc' : 1 < comI (nth xs k) (nth xs j) := by omega
            go_wp2
            refine wp_region_ge_lit (by kernel_rfl) (by kernel_rfl) ?_; (repeat (go_big_quiet_step ((go_at_call 129; exact ge_call (l01Common_any (nth xs k) (nth xs j) _))))); refine wpQuiet_nil ?_
            rintro w1 ⟨x, rfl⟩
            go_wp2
            go_ret
            exact ⟨ret_bool (fitsB_false fun h => absurd (h k hlt j hlt2) (by omega)).symm, below_up hb (ge_below _ _)⟩
        · obtain rfl : j = k := by omega
          go_wp2
          go_roundw
          case rel =>
            refine ⟨j + 1, by omega, by go_num, hb, fun i hi => ?_⟩
            by_cases hij : i < j
            · exact HC.out i hij
            · obtain rfl : i = j := by omega
              exact HD.out
          case measure => simp [intOf]; omega
    · obtain rfl : k = xs.length := by omega
      go_wp2
      go_ret
      exact ⟨ret_bool (fitsB_true HC.out).symm, hb⟩

theorem l01Is_any (v : Int) (A : Option Addr) (c : Nat) (xs : List Blk) (w : World) (hA : Bl w A xs) (hl : xs.length ≤ 1048576) :
    Calls Try.prog 51 #[.agg #[.int .i64 v, .slice A xs.length c]] w fun e w' => e = .returned (.bool (isSysB v xs)) ∧ Below w.heap.size w w' := by
  have HA := Lib.hid hA; clear hA
  have hnot : ¬ ((3 ≤ v ∧ v ≤ 15) ∧ xs.length ≤ 35) → isSysB v xs = false := fun h => isSysB_false fun hs => h ⟨hs.1, hs.2.1⟩
  by_cases hv : 3 ≤ v ∧ v ≤ 15
  · by_cases h35 : xs.length ≤ 35
    · clear hnot
      go_enter Try.func51, Try.ntmps51
      go_wp2_with (go_at_call 52; refine (l01In_any _ _ _ _).mono ?_; rintro e w' ⟨rfl, rfl⟩)
      have hW0 := below_alloc w (.cells #[.int .i64 v, .slice A xs.length c] 30)
      have c0 : (w.alloc (.cells #[.int .i64 v, .slice A xs.length c] 30)).cell? ⟨w.heap.size, 0, none⟩ = some (.int .i64 v) := by simp [go_sem]
      have c1 : (w.alloc (.cells #[.int .i64 v, .slice A xs.length c] 30)).cell? ⟨w.heap.size, 1, none⟩ = some (.slice A xs.length c) := by simp [go_sem]
      have hs : w.heap.size < (w.alloc (.cells #[.int .i64 v, .slice A xs.length c] 30)).heap.size := by simp
      generalize w.alloc _ = W at *
      have HA1 := Lib.hid (HA.out.below hW0)
      have HW := Lib.hid hW0; have HC0 := Lib.hid c0; have HC1 := Lib.hid c1
      clear hW0 c0 c1
      go_loopw [3] (fun i wr => ∃ k : Nat, k ≤ xs.length ∧ i = .int .i64 k ∧ Below W.heap.size W wr ∧ Hid (∀ j, j < k → goodB v (nth xs j) = true ∧ (0 < j → befB (nth xs (j - 1)) (nth xs j) = true))) (fun i _ => xs.length - (intOf i).toNat)
      case atStart => exact ⟨0, by omega, rfl, Below.refl _ _, fun i hi => by omega⟩
      case round =>
        obtain ⟨k, hk, rfl, hb, HC⟩ := hrel
        have d0 : wr.cell? ⟨w.heap.size, 0, none⟩ = _ := (hb.cell hs).trans HC0.out
        have d1 : wr.cell? ⟨w.heap.size, 1, none⟩ = _ := (hb.cell hs).trans HC1.out
        have hs' : w.heap.size < wr.heap.size := Nat.lt_of_lt_of_le hs hb.size
        by_cases hlt : k < xs.length
        · obtain ⟨b1, o1, hA1, hb1, p0, p1, p2⟩ := (HA1.out.below hb).at_ hlt
          subst hA1
          by_cases hg : goodB v (nth xs k) = true
          · by_cases hk0 : 0 < k
            · obtain ⟨b2, o2, hA2, hb2, q0, q1, q2⟩ := (HA1.out.below hb).at_ (k := k - 1) (by omega)
              simp only [Option.some.injEq, Addr.mk.injEq] at hA2
              obtain ⟨rfl, rfl, -⟩ := hA2
              by_cases hf : befB (nth xs (k - 1)) (nth xs k) = true
              · go_wp2
                refine wp_region_ge_lit (by kernel_rfl) (by kernel_rfl) ?_; (repeat (go_big_quiet_step (first | (go_at_call 101; exact ge_call (l01Good_any v (nth xs k) _)) | (go_at_call 102; exact ge_call (l01Before_any (nth xs (k - 1)) (nth xs k) _))))); refine wpQuiet_nil ?_
                rintro w1 ⟨x, rfl⟩
                go_wp2
                go_roundw
                case rel =>
                  refine ⟨k + 1, by omega, by go_num, below_up hb (ge_below _ _), fun j hj => ?_⟩
                  by_cases hjk : j < k
                  · exact HC.out j hjk
                  · obtain rfl : j = k := by omega
                    exact ⟨hg, fun _ => hf⟩
                case measure => simp [intOf]; omega
              · have hf' : befB (nth xs (k - 1)) (nth xs k) = false := by simpa using hf
                clear hf
                go_wp2
                refine wp_region_ge_lit (by kernel_rfl) (by kernel_rfl) ?_; (repeat (go_big_quiet_step (first | (go_at_call 101; exact ge_call (l01Good_any v (nth xs k) _)) | (go_at_call 102; exact ge_call (l01Before_any (nth xs (k - 1)) (nth xs k) _))))); refine wpQuiet_nil ?_
                rintro w1 ⟨x, rfl⟩
                go_wp2
                go_ret
                exact ⟨ret_bool (isSysB_false fun h => by have := (h.2.2.1 k hlt).2 hk0; rw [hf'] at this; cases this).symm, below_up HW.out (below_up hb (ge_below _ _))⟩
            · obtain rfl : k = 0 := by omega
              rw [Nat.zero_mul, Nat.add_zero] at p0 p1 p2
              go_wp2
              refine wp_region_ge_lit (by kernel_rfl) (by kernel_rfl) ?_; (repeat (go_big_quiet_step (first | (go_at_call 101; exact ge_call (l01Good_any v (nth xs 0) _))))); refine wpQuiet_nil ?_
              rintro w1 ⟨x, rfl⟩
              go_wp2
              go_roundw
              case rel =>
                refine ⟨1, by omega, rfl, below_up hb (ge_below _ _), fun j hj => ?_⟩
                obtain rfl : j = 0 := by omega
                exact ⟨hg, fun h => by omega⟩
              case measure => simp [intOf]; omega
          · have hg' : goodB v (nth xs k) = false := by simpa using hg
            clear hg
            go_wp2
            refine wp_region_ge_lit (by kernel_rfl) (by kernel_rfl) ?_; (repeat (go_big_quiet_step (first | (go_at_call 101; exact ge_call (l01Good_any v (nth xs k) _))))); refine wpQuiet_nil ?_
            rintro w1 ⟨x, rfl⟩
            go_wp2
            go_ret
            exact ⟨ret_bool (isSysB_false fun h => by have := (h.2.2.1 k hlt).1; rw [hg'] at this; cases this).symm, below_up HW.out (below_up hb (ge_below _ _))⟩
        · obtain rfl : k = xs.length := by omega
          go_wp2_with (go_at_call 103; refine (l01Fits_any A c xs _ (HA1.out.below hb) hl).mono ?_; rintro e w' ⟨rfl, hb2⟩)
          go_ret
          refine ⟨ret_bool ?_, below_up HW.out (below_up hb hb2)⟩
          rw [Bool.eq_iff_iff, fitsB_iff, isSysB_iff]
          exact ⟨fun h => ⟨hv, h35, HC.out, h⟩, fun h => h.2.2.2⟩
    · have h35' : 35 < xs.length := by omega
      have hr := hnot (fun h => h35 h.2)
      clear hnot h35
      go_enter Try.func51, Try.ntmps51
      go_wp2_with (go_at_call 52; refine (l01In_any _ _ _ _).mono ?_; rintro e w' ⟨rfl, rfl⟩)
      go_ret
      exact ⟨ret_bool hr.symm, below_alloc _ _⟩
  · have hr := hnot (fun h => hv h.1)
    have hv' : decide (3 ≤ v ∧ v ≤ 15) = false := by simpa using hv
    clear hnot hv
    go_enter Try.func51, Try.ntmps51
    go_wp2_with (go_at_call 52; refine (l01In_any _ _ _ _).mono ?_; rintro e w' ⟨rfl, rfl⟩)
    go_ret
    exact ⟨ret_bool hr.symm, below_alloc _ _⟩

end Go.Proofs.Ytpdkkbimhhhjmaa
