/- Contracts for CommonNeighbours of the program; conditions: stated in each. -/
import Derived.Test.YtbiepcafnhhfgaaQNeigh
import Derived.Test.YtbiepcafnhhfgaaW8
import Derived.BigRegion
import Derived.Deep.RegionHeld3
namespace Go.Proofs.Ytbiepcafnhhfgaa
open Go.RowKit
set_option maxHeartbeats 400000
set_option linter.unusedSimpArgs false
set_option linter.unusedVariables false

theorem implNeigh_ok (v : Int) (A : Option Addr) (c : Nat) (xs : List Blk) (I K : Nat) (w : World) (hA : Bl w A xs) (hl : xs.length ≤ 1048576) (hs : isSysB v xs = true) (hI : I < xs.length) (hK : K < xs.length) (hne : ((I : Int) == (K : Int)) = false) :
    Calls Try.prog 21 #[.agg #[.int .i64 v, .slice A xs.length c], .int .i64 I, .int .i64 K] w fun e w' => e = .returned (.tuple #[.int .i64 (neighR v xs I K).1, .int .i64 (neighR v xs I K).2]) ∧ Below w.heap.size w w' := by
  have hsys := isSysB_iff.1 hs
  have HN : Hid (neighR v xs I K = (neighN xs I K xs.length, 0)) := by
    have nI : numCode v xs I = 0 := by unfold numCode; rw [if_pos hs, if_pos ⟨by omega, by omega⟩]
    have nK : numCode v xs K = 0 := by unfold numCode; rw [if_pos hs, if_pos ⟨by omega, by omega⟩]
    unfold Hid neighR
    rw [if_neg (by simp [nI]), if_neg (by simp [nK]), if_neg (by simpa using hne)]; rfl
  have HA := Lib.hid hA; clear hA
  have HR := Lib.hid (Row.box w 30 (.int .i64 v) (.slice A xs.length c))
  have HW := Lib.hid (Since.refl w)
  go_enter Try.func21, Try.ntmps21
  go_wp2_with fail
  replace HA := Lib.hid (HA.out.below (below_alloc _ (.cells #[.int .i64 v, .slice A xs.length c] 30))); replace HW := Lib.hid (HW.out.below (below_alloc _ (.cells #[.int .i64 v, .slice A xs.length c] 30)))
  refine (IsSystem_any v A c xs _ HA.out hl).mono ?_
  rw [hs]
  rintro e w1 ⟨rfl, hb⟩
  replace HA := Lib.hid (HA.out.below hb); replace HW := Lib.hid (HW.out.below hb); replace HR := Lib.hid (HR.out.below hb); clear hb; (try clear c0 c1); obtain ⟨c0, c1⟩ := HR.out.c2
  go_wp2_with fail
  refine (isNumber_any v A c xs.length I _ hl).mono ?_
  rw [decide_eq_true (by omega)]
  rintro e w2 ⟨rfl, hb⟩
  replace HA := Lib.hid (HA.out.below hb); replace HW := Lib.hid (HW.out.below hb); replace HR := Lib.hid (HR.out.below hb); clear hb; (try clear c0 c1); obtain ⟨c0, c1⟩ := HR.out.c2
  go_wp2_with fail
  refine (isNumber_any v A c xs.length K _ hl).mono ?_
  rw [decide_eq_true (by omega)]
  rintro e w3 ⟨rfl, hb⟩
  replace HA := Lib.hid (HA.out.below hb); replace HW := Lib.hid (HW.out.below hb); replace HR := Lib.hid (HR.out.below hb); clear hb; (try clear c0 c1); obtain ⟨c0, c1⟩ := HR.out.c2
  obtain ⟨b1, o1, hA1, hb1, p0, p1, p2⟩ := HA.out.at_ hI
  subst hA1
  obtain ⟨b2, o2, hA2, hb2, q0, q1, q2⟩ := HA.out.at_ hK
  simp only [Option.some.injEq, Addr.mk.injEq] at hA2
  obtain ⟨rfl, rfl, -⟩ := hA2
  have hsz := HR.out.lt
  go_wp2
  go_region
  · obtain ⟨hX, hY, hZ⟩ := Box.two w3 (nth xs I) (nth xs K) 65
    go_wp2_with fail
    refine (numbersOf_any v (some ⟨b1, o1, none⟩) c xs 59 #[.pointer (some ⟨w3.heap.size, 0, none⟩), .pointer (some ⟨w3.heap.size + 1, 0, none⟩)] (neighP (nth xs I) (nth xs K)) _ ((HA.out.below hZ).below (below_drew _)) hl (fun args w => by kernel_rfl)
      (fun W b hb => neighCl_any (nth xs I) (nth xs K) b _ _ W ((hX.below (below_drew _)).below hb) ((hY.below (below_drew _)).below hb))).mono ?_
    rintro e w4 ⟨u, rfl, hown, hb⟩
    obtain ⟨A', c', rfl⟩ := own_slice hown
    have HB := Lib.hid ((HW.out.below hZ).below (below_up (below_drew _) hb))
    clear hb hown hX hY hZ
    go_wp2
    go_ret2
    refine ⟨ret_ii ?_ ?_, HB.out⟩
    all_goals rw [HN.out]
    exact neigh_nums hsys.2.2.1 hI hK xs.length (Nat.le_refl _)
  · obtain ⟨hX, hY, hZ⟩ := Box.two w3 (nth xs K) (nth xs I) 65
    go_wp2_with fail
    refine (numbersOf_any v (some ⟨b1, o1, none⟩) c xs 59 #[.pointer (some ⟨w3.heap.size + 1, 0, none⟩), .pointer (some ⟨w3.heap.size, 0, none⟩)] (neighP (nth xs I) (nth xs K)) _ ((HA.out.below hZ).below (below_drew _)) hl (fun args w => by kernel_rfl)
      (fun W b hb => neighCl_any (nth xs I) (nth xs K) b _ _ W ((hY.below (below_drew _)).below hb) ((hX.below (below_drew _)).below hb))).mono ?_
    rintro e w4 ⟨u, rfl, hown, hb⟩
    obtain ⟨A', c', rfl⟩ := own_slice hown
    have HB := Lib.hid ((HW.out.below hZ).below (below_up (below_drew _) hb))
    clear hb hown hX hY hZ
    go_wp2
    go_ret2
    refine ⟨ret_ii ?_ ?_, HB.out⟩
    all_goals rw [HN.out]
    exact neigh_nums hsys.2.2.1 hI hK xs.length (Nat.le_refl _)

theorem neighR_range {v : Int} {xs : List Blk} {i k : Int} (hs : isSysB v xs = true) (h : ¬ (0 ≤ i ∧ i ≤ (xs.length : Int) - 1) ∨ ¬ (0 ≤ k ∧ k ≤ (xs.length : Int) - 1) ∨ i = k) : neighR v xs i k = (0, 2) := by
  by_cases h1 : 0 ≤ i ∧ i ≤ (xs.length : Int) - 1
  · by_cases h2 : 0 ≤ k ∧ k ≤ (xs.length : Int) - 1
    · have h3 : i = k := by
        rcases h with h | h | h
        · exact absurd h1 h
        · exact absurd h2 h
        · exact h
      subst h3
      simp [neighR, numCode, hs, h1]
    · simp [neighR, numCode, hs, h1, h2]
  · simp [neighR, numCode, hs, h1]
theorem neighR_bad {v : Int} {xs : List Blk} {i k : Int} (hs : isSysB v xs = false) : neighR v xs i k = (0, 1) := by
  simp [neighR, numCode, hs]

theorem implNeigh_any (v : Int) (A : Option Addr) (c : Nat) (xs : List Blk) (i k : Int) (w : World) (hA : Bl w A xs) (hl : xs.length ≤ 1048576) :
    Calls Try.prog 21 #[.agg #[.int .i64 v, .slice A xs.length c], .int .i64 i, .int .i64 k] w fun e w' => e = .returned (.tuple #[.int .i64 (neighR v xs i k).1, .int .i64 (neighR v xs i k).2]) ∧ Below w.heap.size w w' := by
  cases hs : isSysB v xs
  · have HN := Lib.hid (neighR_bad (i := i) (k := k) hs)
    have HA := Lib.hid hA; clear hA
    have HW := Lib.hid (Since.refl w)
    go_enter Try.func21, Try.ntmps21
    go_wp2_with fail
    replace HA := Lib.hid (HA.out.below (below_alloc _ (.cells #[.int .i64 v, .slice A xs.length c] 30))); replace HW := Lib.hid (HW.out.below (below_alloc _ (.cells #[.int .i64 v, .slice A xs.length c] 30)))
    refine (IsSystem_any v A c xs _ HA.out hl).mono ?_
    rw [hs]
    rintro e w1 ⟨rfl, hb⟩
    replace HW := Lib.hid (HW.out.below hb); clear hb
    go_wp2
    go_ret2
    exact ⟨ret_ii (by rw [HN.out]) (by rw [HN.out]), HW.out⟩
  · by_cases h1 : 0 ≤ i ∧ i ≤ (xs.length : Int) - 1
    · by_cases h2 : 0 ≤ k ∧ k ≤ (xs.length : Int) - 1
      · by_cases h3 : i = k
        · have h3' : (i == k) = true := by simpa using h3
          have d1 := decide_eq_true h1; have d2 := decide_eq_true h2
          have HN := Lib.hid (neighR_range (i := i) (k := k) hs (.inr (.inr h3)))
          have D1 := Lib.hid d1; have D2 := Lib.hid d2
          clear h1 h2 h3 d1 d2
          have HA := Lib.hid hA; clear hA
          have HR := Lib.hid (Row.box w 30 (.int .i64 v) (.slice A xs.length c))
          have HW := Lib.hid (Since.refl w)
          go_enter Try.func21, Try.ntmps21
          go_wp2_with fail
          replace HA := Lib.hid (HA.out.below (below_alloc _ (.cells #[.int .i64 v, .slice A xs.length c] 30))); replace HW := Lib.hid (HW.out.below (below_alloc _ (.cells #[.int .i64 v, .slice A xs.length c] 30)))
          refine (IsSystem_any v A c xs _ HA.out hl).mono ?_
          rw [hs]
          rintro e w1 ⟨rfl, hb⟩
          replace HA := Lib.hid (HA.out.below hb); replace HW := Lib.hid (HW.out.below hb); replace HR := Lib.hid (HR.out.below hb); clear hb; (try clear c0 c1); obtain ⟨c0, c1⟩ := HR.out.c2
          go_wp2_with fail
          refine (isNumber_any v A c xs.length i _ hl).mono ?_
          rw [D1.out]
          rintro e w2 ⟨rfl, hb⟩
          replace HA := Lib.hid (HA.out.below hb); replace HW := Lib.hid (HW.out.below hb); replace HR := Lib.hid (HR.out.below hb); clear hb; (try clear c0 c1); obtain ⟨c0, c1⟩ := HR.out.c2
          go_wp2_with fail
          refine (isNumber_any v A c xs.length k _ hl).mono ?_
          rw [D2.out]
          rintro e w3 ⟨rfl, hb⟩
          replace HA := Lib.hid (HA.out.below hb); replace HW := Lib.hid (HW.out.below hb); replace HR := Lib.hid (HR.out.below hb); clear hb; (try clear c0 c1); obtain ⟨c0, c1⟩ := HR.out.c2
          go_wp2
          go_ret2
          exact ⟨ret_ii (by rw [HN.out]) (by rw [HN.out]), HW.out⟩
        · obtain ⟨I, rfl⟩ := Int.eq_ofNat_of_zero_le h1.1
          obtain ⟨K, rfl⟩ := Int.eq_ofNat_of_zero_le h2.1
          exact implNeigh_ok v A c xs I K w hA hl hs (by omega) (by omega) (by simpa using h3)
      · have d1 := decide_eq_true h1; have d2 := decide_eq_false h2
        have HN := Lib.hid (neighR_range (i := i) (k := k) hs (.inr (.inl h2)))
        have D1 := Lib.hid d1; have D2 := Lib.hid d2
        clear h1 h2 d1 d2
        have HA := Lib.hid hA; clear hA
        have HR := Lib.hid (Row.box w 30 (.int .i64 v) (.slice A xs.length c))
        have HW := Lib.hid (Since.refl w)
        go_enter Try.func21, Try.ntmps21
        go_wp2_with fail
        replace HA := Lib.hid (HA.out.below (below_alloc _ (.cells #[.int .i64 v, .slice A xs.length c] 30))); replace HW := Lib.hid (HW.out.below (below_alloc _ (.cells #[.int .i64 v, .slice A xs.length c] 30)))
        refine (IsSystem_any v A c xs _ HA.out hl).mono ?_
        rw [hs]
        rintro e w1 ⟨rfl, hb⟩
        replace HA := Lib.hid (HA.out.below hb); replace HW := Lib.hid (HW.out.below hb); replace HR := Lib.hid (HR.out.below hb); clear hb; (try clear c0 c1); obtain ⟨c0, c1⟩ := HR.out.c2
        go_wp2_with fail
        refine (isNumber_any v A c xs.length i _ hl).mono ?_
        rw [D1.out]
        rintro e w2 ⟨rfl, hb⟩
        replace HA := Lib.hid (HA.out.below hb); replace HW := Lib.hid (HW.out.below hb); replace HR := Lib.hid (HR.out.below hb); clear hb; (try clear c0 c1); obtain ⟨c0, c1⟩ := HR.out.c2
        go_wp2_with fail
        refine (isNumber_any v A c xs.length k _ hl).mono ?_
        rw [D2.out]
        rintro e w3 ⟨rfl, hb⟩
        replace HA := Lib.hid (HA.out.below hb); replace HW := Lib.hid (HW.out.below hb); replace HR := Lib.hid (HR.out.below hb); clear hb; (try clear c0 c1); obtain ⟨c0, c1⟩ := HR.out.c2
        go_wp2
        go_ret2
        exact ⟨ret_ii (by rw [HN.out]) (by rw [HN.out]), HW.out⟩
    · have d1 := decide_eq_false h1
      have HN := Lib.hid (neighR_range (i := i) (k := k) hs (.inl h1))
      have D1 := Lib.hid d1
      clear h1 d1
      have HA := Lib.hid hA; clear hA
      have HR := Lib.hid (Row.box w 30 (.int .i64 v) (.slice A xs.length c))
      have HW := Lib.hid (Since.refl w)
      go_enter Try.func21, Try.ntmps21
      go_wp2_with fail
      replace HA := Lib.hid (HA.out.below (below_alloc _ (.cells #[.int .i64 v, .slice A xs.length c] 30))); replace HW := Lib.hid (HW.out.below (below_alloc _ (.cells #[.int .i64 v, .slice A xs.length c] 30)))
      refine (IsSystem_any v A c xs _ HA.out hl).mono ?_
      rw [hs]
      rintro e w1 ⟨rfl, hb⟩
      replace HA := Lib.hid (HA.out.below hb); replace HW := Lib.hid (HW.out.below hb); replace HR := Lib.hid (HR.out.below hb); clear hb; (try clear c0 c1); obtain ⟨c0, c1⟩ := HR.out.c2
      go_wp2_with fail
      refine (isNumber_any v A c xs.length i _ hl).mono ?_
      rw [D1.out]
      rintro e w2 ⟨rfl, hb⟩
      replace HA := Lib.hid (HA.out.below hb); replace HW := Lib.hid (HW.out.below hb); replace HR := Lib.hid (HR.out.below hb); clear hb; (try clear c0 c1); obtain ⟨c0, c1⟩ := HR.out.c2
      go_wp2
      go_ret2
      exact ⟨ret_ii (by rw [HN.out]) (by rw [HN.out]), HW.out⟩

end Go.Proofs.Ytbiepcafnhhfgaa
