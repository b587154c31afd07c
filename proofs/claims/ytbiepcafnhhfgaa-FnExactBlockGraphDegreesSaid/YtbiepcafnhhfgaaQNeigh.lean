/- Contracts for CommonNeighbours, of the reference and of the program; conditions: stated in each. -/
import Derived.Test.YtbiepcafnhhfgaaW5
import Derived.Test.YtbiepcafnhhfgaaW7
import Derived.Test.YtbiepcafnhhfgaaP2
namespace Go.Proofs.Ytbiepcafnhhfgaa
open Go.RowKit
set_option maxHeartbeats 400000
set_option linter.unusedSimpArgs false
set_option linter.unusedVariables false

theorem isNumber_any (v : Int) (A : Option Addr) (c n : Nat) (i : Int) (w : World) (hl : n ≤ 1048576) :
    Calls Try.prog 57 #[.agg #[.int .i64 v, .slice A n c], .int .i64 i] w fun e w' => e = .returned (.bool (decide (0 ≤ i ∧ i ≤ (n : Int) - 1))) ∧ Below w.heap.size w w' := by
  go_enter Try.func57, Try.ntmps57
  go_wp2_with (go_at_call 67; refine (within_any _ _ _ _).mono ?_; rintro e w' ⟨rfl, rfl⟩)
  go_ret
  exact ⟨ret_bool (by simp), below_alloc _ _⟩

/-- the code of a system and of a block's number -/
noncomputable def numCode (v : Int) (xs : List Blk) (i : Int) : Int := if isSysB v xs = true then (if 0 ≤ i ∧ i ≤ (xs.length : Int) - 1 then 0 else 2) else 1

theorem l05Number_any (v : Int) (A : Option Addr) (c : Nat) (xs : List Blk) (i : Int) (w : World) (hA : Bl w A xs) (hl : xs.length ≤ 1048576) :
    Calls Try.prog 55 #[.agg #[.int .i64 v, .slice A xs.length c], .int .i64 i] w fun e w' => e = .returned (.int .i64 (numCode v xs i)) ∧ Below w.heap.size w w' := by
  have HA := Lib.hid hA; clear hA
  have HR := Lib.hid (Row.box w 30 (.int .i64 v) (.slice A xs.length c))
  have HW := Lib.hid (Since.refl w)
  by_cases hs : isSysB v xs = true
  · by_cases hi : 0 ≤ i ∧ i ≤ (xs.length : Int) - 1
    all_goals
      go_enter Try.func55, Try.ntmps55
      go_wp2_with fail
      replace HA := Lib.hid (HA.out.below (below_alloc _ (.cells #[.int .i64 v, .slice A xs.length c] 30))); replace HW := Lib.hid (HW.out.below (below_alloc _ (.cells #[.int .i64 v, .slice A xs.length c] 30)))
      refine (l01Is_any v A c xs _ HA.out hl).mono ?_
      rintro e w1 ⟨rfl, hb⟩
      replace HA := Lib.hid (HA.out.below hb); replace HW := Lib.hid (HW.out.below hb); replace HR := Lib.hid (HR.out.below hb); clear hb; (try clear c0 c1); obtain ⟨c0, c1⟩ := HR.out.c2
      go_wp2_with (go_at_call 65; refine (l01In_any _ _ _ _).mono ?_; rintro e w' ⟨rfl, rfl⟩)
      go_ret
      refine ⟨ret_int ?_, HW.out⟩
      simp [numCode, hs, hi]
  · have hs' : isSysB v xs = false := by simpa using hs
    clear hs
    go_enter Try.func55, Try.ntmps55
    go_wp2_with fail
    replace HA := Lib.hid (HA.out.below (below_alloc _ (.cells #[.int .i64 v, .slice A xs.length c] 30))); replace HW := Lib.hid (HW.out.below (below_alloc _ (.cells #[.int .i64 v, .slice A xs.length c] 30)))
    refine (l01Is_any v A c xs _ HA.out hl).mono ?_
    rintro e w1 ⟨rfl, hb⟩
    replace HA := Lib.hid (HA.out.below hb); replace HW := Lib.hid (HW.out.below hb); replace HR := Lib.hid (HR.out.below hb); clear hb; (try clear c0 c1); obtain ⟨c0, c1⟩ := HR.out.c2
    go_wp2
    go_ret
    refine ⟨ret_int ?_, HW.out⟩
    simp [numCode, hs']

noncomputable def neighR (v : Int) (xs : List Blk) (i k : Int) : Int × Int :=
  if numCode v xs i ≠ 0 then (0, numCode v xs i) else if numCode v xs k ≠ 0 then (0, numCode v xs k) else if i = k then (0, 2) else (neighN xs i.toNat k.toNat xs.length, 0)
theorem numCode_zero {v : Int} {xs : List Blk} {i : Int} (h : numCode v xs i = 0) : isSysB v xs = true ∧ 0 ≤ i ∧ i ≤ (xs.length : Int) - 1 := by
  unfold numCode at h; (repeat' split at h) <;> simp_all
theorem numCode_two {v : Int} {xs : List Blk} {i : Int} (hs : isSysB v xs = true) (h : ¬ numCode v xs i = 0) : numCode v xs i = 2 := by
  unfold numCode at *; (repeat' split at h) <;> simp_all

theorem specNeigh_any (v : Int) (A : Option Addr) (c : Nat) (xs : List Blk) (i k : Int) (w : World) (hA : Bl w A xs) (hl : xs.length ≤ 1048576) :
    Calls Try.prog 20 #[.agg #[.int .i64 v, .slice A xs.length c], .int .i64 i, .int .i64 k] w fun e w' => e = .returned (.tuple #[.int .i64 (neighR v xs i k).1, .int .i64 (neighR v xs i k).2]) ∧ Below w.heap.size w w' := by
  have HA := Lib.hid hA; clear hA
  have HR := Lib.hid (Row.box w 30 (.int .i64 v) (.slice A xs.length c))
  have HW := Lib.hid (Since.refl w)
  have HN : Hid (neighR v xs i k = if numCode v xs i ≠ 0 then (0, numCode v xs i) else if numCode v xs k ≠ 0 then (0, numCode v xs k) else if i = k then (0, 2) else (neighN xs i.toNat k.toNat xs.length, 0)) := rfl
  by_cases h1 : numCode v xs i = 0
  · by_cases h2 : numCode v xs k = 0
    · by_cases h3 : i = k
      · have h3' : (i == k) = true := by simpa using h3
        have H := Lib.hid (And.intro h1 (And.intro h2 h3)); clear h1 h2 h3
        go_enter Try.func20, Try.ntmps20
        go_wp2_with fail
        replace HA := Lib.hid (HA.out.below (below_alloc _ (.cells #[.int .i64 v, .slice A xs.length c] 30))); replace HW := Lib.hid (HW.out.below (below_alloc _ (.cells #[.int .i64 v, .slice A xs.length c] 30)))
        refine (l05Number_any v A c xs i _ HA.out hl).mono ?_
        rw [H.out.1]
        rintro e w1 ⟨rfl, hb⟩
        replace HA := Lib.hid (HA.out.below hb); replace HW := Lib.hid (HW.out.below hb); replace HR := Lib.hid (HR.out.below hb); clear hb; (try clear c0 c1); obtain ⟨c0, c1⟩ := HR.out.c2
        go_wp2_with fail
        refine (l05Number_any v A c xs k _ HA.out hl).mono ?_
        rw [H.out.2.1]
        rintro e w2 ⟨rfl, hb⟩
        replace HA := Lib.hid (HA.out.below hb); replace HW := Lib.hid (HW.out.below hb); replace HR := Lib.hid (HR.out.below hb); clear hb; (try clear c0 c1); obtain ⟨c0, c1⟩ := HR.out.c2
        go_wp2
        go_ret2
        refine ⟨?_, HW.out⟩
        rw [HN.out, if_neg (by simp [H.out.1]), if_neg (by simp [H.out.2.1]), if_pos H.out.2.2]; rfl
      · have h3' : (i == k) = false := by simpa using h3
        have H := Lib.hid (And.intro h1 (And.intro h2 h3))
        obtain ⟨hs, i0, i1⟩ := numCode_zero h1
        obtain ⟨_, k0, k1⟩ := numCode_zero h2
        clear h1 h2 h3
        obtain ⟨I, rfl⟩ := Int.eq_ofNat_of_zero_le i0
        obtain ⟨K, rfl⟩ := Int.eq_ofNat_of_zero_le k0
        have hI : I < xs.length := by omega
        have hK : K < xs.length := by omega
        clear i0 i1 k0 k1 h3'
        have h3' : ((I : Int) == (K : Int)) = false := by simpa using H.out.2.2
        go_enter Try.func20, Try.ntmps20
        go_wp2_with fail
        replace HA := Lib.hid (HA.out.below (below_alloc _ (.cells #[.int .i64 v, .slice A xs.length c] 30))); replace HW := Lib.hid (HW.out.below (below_alloc _ (.cells #[.int .i64 v, .slice A xs.length c] 30)))
        refine (l05Number_any v A c xs I _ HA.out hl).mono ?_
        rw [H.out.1]
        rintro e w1 ⟨rfl, hb⟩
        replace HA := Lib.hid (HA.out.below hb); replace HW := Lib.hid (HW.out.below hb); replace HR := Lib.hid (HR.out.below hb); clear hb; (try clear c0 c1); obtain ⟨c0, c1⟩ := HR.out.c2
        go_wp2_with fail
        refine (l05Number_any v A c xs K _ HA.out hl).mono ?_
        rw [H.out.2.1]
        rintro e w2 ⟨rfl, hb⟩
        replace HA := Lib.hid (HA.out.below hb); replace HW := Lib.hid (HW.out.below hb); replace HR := Lib.hid (HR.out.below hb); clear hb; (try clear c0 c1); obtain ⟨c0, c1⟩ := HR.out.c2
        go_wp2
        have HL := Lib.hid HR.out.lt
        clear c0 c1
        go_loopw [9, 10] (fun s j wr => ∃ m : Nat, m ≤ xs.length ∧ j = .int .i64 m ∧ s = .int .i64 (neighN xs I K m) ∧ Below w2.heap.size w2 wr) (fun _ j _ => xs.length - (intOf j).toNat)
        case atStart => exact ⟨0, by omega, rfl, rfl, Below.refl _ _⟩
        case round =>
          obtain ⟨m, hm, rfl, rfl, hb⟩ := hrel
          obtain ⟨c0, c1⟩ := (HR.out.below hb).c2
          have hsz := (HR.out.below hb).lt
          have nb := neighN_bd xs I K m
          by_cases hlt : m < xs.length
          · obtain ⟨b1, o1, hA1, hb1, p0, p1, p2⟩ := (HA.out.below hb).at_ hlt
            subst hA1
            obtain ⟨b2, o2, hA2, hb2, q0, q1, q2⟩ := (HA.out.below hb).at_ hI
            simp only [Option.some.injEq, Addr.mk.injEq] at hA2
            obtain ⟨rfl, rfl, -⟩ := hA2
            obtain ⟨b3, o3, hA3, hb3, s0, s1, s2⟩ := (HA.out.below hb).at_ hK
            simp only [Option.some.injEq, Addr.mk.injEq] at hA3
            obtain ⟨rfl, rfl, -⟩ := hA3
            have HNS : Hid (neighN xs I K (m + 1) = neighN xs I K m + (if m ≠ I ∧ m ≠ K ∧ comI (nth xs I) (nth xs m) > 0 ∧ comI (nth xs K) (nth xs m) > 0 then 1 else 0)) := rfl
            by_cases e1 : m = I
            · have e1' : ((m : Int) != (I : Int)) = false := by simp [e1]
              have HE := Lib.hid e1; clear e1
              go_wp2
              refine wp_region_ge_lit (by kernel_rfl) (by kernel_rfl) ?_; (repeat (go_big_quiet_step ((go_at_call 56; exact ge_call (l01Common_any _ _ _))))); refine wpQuiet_nil ?_
              rintro w3 ⟨x, rfl⟩
              go_wp2
              go_roundw
              case rel => exact ⟨m + 1, by omega, by go_num, val_int (by rw [HNS.out, if_neg (fun h => h.1 HE.out)]; omega), below_up hb (ge_below _ _)⟩
              case measure => simp [intOf]; omega
            · have e1' : ((m : Int) != (I : Int)) = true := by rw [bne_iff_ne]; omega
              have HE := Lib.hid e1; clear e1
              by_cases e2 : m = K
              · have e2' : ((m : Int) != (K : Int)) = false := by simp [e2]
                have HE2 := Lib.hid e2; clear e2
                go_wp2
                refine wp_region_ge_lit (by kernel_rfl) (by kernel_rfl) ?_; (repeat (go_big_quiet_step ((go_at_call 56; exact ge_call (l01Common_any _ _ _))))); refine wpQuiet_nil ?_
                rintro w3 ⟨x, rfl⟩
                go_wp2
                go_roundw
                case rel => exact ⟨m + 1, by omega, by go_num, val_int (by rw [HNS.out, if_neg (fun h => h.2.1 HE2.out)]; omega), below_up hb (ge_below _ _)⟩
                case measure => simp [intOf]; omega
              · have e2' : ((m : Int) != (K : Int)) = true := by rw [bne_iff_ne]; omega
                have HE2 := Lib.hid e2; clear e2
                by_cases e3 : 0 < comI (nth xs I) (nth xs m)
                · by_cases e4 : 0 < comI (nth xs K) (nth xs m)
                  · go_wp2
                    refine wp_region_ge_lit (by kernel_rfl) (by kernel_rfl) ?_; (repeat (go_big_quiet_step (first | (go_at_call 56; exact ge_call (l01Common_any _ _ _))))); refine wpQuiet_nil ?_
                    rintro w3 ⟨x, rfl⟩
                    go_wp2
                    go_roundw
                    case rel => exact ⟨m + 1, by omega, by go_num, val_int (by rw [HNS.out, if_pos ⟨HE.out, HE2.out, e3, e4⟩]), below_up hb (ge_below _ _)⟩
                    case measure => simp [intOf]; omega
                  · have e4' : comI (nth xs K) (nth xs m) ≤ 0 := by omega
                    clear e4
                    go_wp2
                    refine wp_region_ge_lit (by kernel_rfl) (by kernel_rfl) ?_; (repeat (go_big_quiet_step (first | (go_at_call 56; exact ge_call (l01Common_any _ _ _))))); refine wpQuiet_nil ?_
                    rintro w3 ⟨x, rfl⟩
                    go_wp2
                    go_roundw
                    case rel => exact ⟨m + 1, by omega, by go_num, val_int (by rw [HNS.out, if_neg (fun h => absurd h.2.2.2 (by omega))]; omega), below_up hb (ge_below _ _)⟩
                    case measure => simp [intOf]; omega
                · have e3' : comI (nth xs I) (nth xs m) ≤ 0 := by omega
                  have e3'' : decide (0 < comI (nth xs I) (nth xs m)) = false := by simpa using e3
                  clear e3
                  go_wp2
                  refine wp_region_ge_lit (by kernel_rfl) (by kernel_rfl) ?_; (repeat (go_big_quiet_step (first | (go_at_call 56; exact ge_call (l01Common_any _ _ _))))); refine wpQuiet_nil ?_
                  rintro w3 ⟨x, rfl⟩
                  go_wp2
                  go_roundw
                  case rel => exact ⟨m + 1, by omega, by go_num, val_int (by rw [HNS.out, if_neg (fun h => absurd h.2.2.1 (by omega))]; omega), below_up hb (ge_below _ _)⟩
                  case measure => simp [intOf]; omega
          · obtain rfl : m = xs.length := by omega
            go_wp2
            go_ret2
            refine ⟨?_, HW.out.below hb⟩
            rw [HN.out, if_neg (by simp [H.out.1]), if_neg (by simp [H.out.2.1]), if_neg H.out.2.2]; rfl
    · have h2' : (numCode v xs k != 0) = true := by simpa using h2
      have h2'' : (numCode v xs k == 0) = false := by simpa using h2
      have H := Lib.hid (And.intro h1 h2); clear h1 h2
      go_enter Try.func20, Try.ntmps20
      go_wp2_with fail
      replace HA := Lib.hid (HA.out.below (below_alloc _ (.cells #[.int .i64 v, .slice A xs.length c] 30))); replace HW := Lib.hid (HW.out.below (below_alloc _ (.cells #[.int .i64 v, .slice A xs.length c] 30)))
      refine (l05Number_any v A c xs i _ HA.out hl).mono ?_
      rw [H.out.1]
      rintro e w1 ⟨rfl, hb⟩
      replace HA := Lib.hid (HA.out.below hb); replace HW := Lib.hid (HW.out.below hb); replace HR := Lib.hid (HR.out.below hb); clear hb; (try clear c0 c1); obtain ⟨c0, c1⟩ := HR.out.c2
      go_wp2_with fail
      refine (l05Number_any v A c xs k _ HA.out hl).mono ?_
      rintro e w2 ⟨rfl, hb⟩
      replace HA := Lib.hid (HA.out.below hb); replace HW := Lib.hid (HW.out.below hb); replace HR := Lib.hid (HR.out.below hb); clear hb; (try clear c0 c1); obtain ⟨c0, c1⟩ := HR.out.c2
      go_wp2
      go_ret2
      refine ⟨?_, HW.out⟩
      rw [HN.out, if_neg (by simp [H.out.1]), if_pos H.out.2]; rfl
  · have h1' : (numCode v xs i != 0) = true := by simpa using h1
    have h1'' : (numCode v xs i == 0) = false := by simpa using h1
    have H := Lib.hid h1; clear h1
    go_enter Try.func20, Try.ntmps20
    go_wp2_with fail
    replace HA := Lib.hid (HA.out.below (below_alloc _ (.cells #[.int .i64 v, .slice A xs.length c] 30))); replace HW := Lib.hid (HW.out.below (below_alloc _ (.cells #[.int .i64 v, .slice A xs.length c] 30)))
    refine (l05Number_any v A c xs i _ HA.out hl).mono ?_
    rintro e w1 ⟨rfl, hb⟩
    replace HA := Lib.hid (HA.out.below hb); replace HW := Lib.hid (HW.out.below hb); replace HR := Lib.hid (HR.out.below hb); clear hb; (try clear c0 c1); obtain ⟨c0, c1⟩ := HR.out.c2
    go_wp2
    go_ret2
    refine ⟨?_, HW.out⟩
    rw [HN.out, if_pos H.out]; rfl

end Go.Proofs.Ytbiepcafnhhfgaa
