/- Contracts for MeetingBlocks, of the reference and of the program; conditions: stated in each. -/
import Derived.Test.YtbiepcafnhhfgaaQNeigh
import Derived.Test.YtbiepcafnhhfgaaW8
import Derived.Test.YtbiepcafnhhfgaaM3
import Derived.BigRegion
import Derived.Deep.RegionHeld3
namespace Go.Proofs.Ytbiepcafnhhfgaa
open Go.RowKit
set_option maxHeartbeats 400000
set_option linter.unusedSimpArgs false
set_option linter.unusedVariables false

/-- the blocks that meet a block, and the code -/
noncomputable def meetR (v : Int) (xs : List Blk) (i : Int) : List Int × Int :=
  if numCode v xs i ≠ 0 then ([], numCode v xs i) else (nums (awayP (nth xs i.toNat)) xs, 0)
theorem meetR_bd (v : Int) (xs : List Blk) (i : Int) : (meetR v xs i).1.length ≤ xs.length := by
  unfold meetR; split
  · simp
  · exact numsN_len _ _ _
theorem away_iff {v : Int} {xs : List Blk} (h : areB v xs) {i m : Nat} (hi : i < xs.length) (hm : m < xs.length) : awayP (nth xs i) (nth xs m) = true ↔ (m ≠ i ∧ comI (nth xs i) (nth xs m) > 0) := by
  have gi := (h i hi).1
  unfold awayP
  simp only [Bool.and_eq_true, Bool.not_eq_true', meet_iff _ gi, comI_symm (nth xs m)]
  have e1 : eqB (nth xs m) (nth xs i) = false ↔ m ≠ i := by
    rw [← Bool.not_eq_true, eqB_iff]
    exact ⟨fun h' e => h' (by rw [e]), fun h' e => h' (are_inj h (by omega) hi e)⟩
  rw [e1]

theorem specMeet_any (v : Int) (A : Option Addr) (c : Nat) (xs : List Blk) (i : Int) (w : World) (hA : Bl w A xs) (hl : xs.length ≤ 1048576) :
    Calls Try.prog 44 #[.agg #[.int .i64 v, .slice A xs.length c], .int .i64 i] w (LP w (meetR v xs i).1 (meetR v xs i).2) := by
  obtain ⟨i0, hi, hz0, hz1, hz2⟩ := info_parts infoInt'
  have HN : Hid (meetR v xs i = if numCode v xs i ≠ 0 then ([], numCode v xs i) else (nums (awayP (nth xs i.toNat)) xs, 0)) := rfl
  by_cases h1 : numCode v xs i = 0
  · obtain ⟨hs, i0, i1⟩ := numCode_zero h1
    obtain ⟨I, rfl⟩ := Int.eq_ofNat_of_zero_le i0
    have hI : I < xs.length := by omega
    have H := Lib.hid h1
    have hAre : Hid (areB v xs) := (isSysB_iff.1 hs).2.2.1
    clear i0 i1 h1 hs
    have HA := Lib.hid hA; clear hA; have HR := Lib.hid (Row.box w 30 (.int .i64 v) (.slice A xs.length c)); have HW := Lib.hid (Since.refl w); go_enter Try.func44, Try.ntmps44; go_wp2_with fail; replace HA := Lib.hid (HA.out.below (below_alloc _ (.cells #[.int .i64 v, .slice A xs.length c] 30))); replace HW := Lib.hid (HW.out.below (below_alloc _ (.cells #[.int .i64 v, .slice A xs.length c] 30)))
    refine (l05Number_any v A c xs I _ HA.out hl).mono ?_; rw [H.out]; rintro e w_ ⟨rfl, hb⟩; replace HA := Lib.hid (HA.out.below hb); replace HW := Lib.hid (HW.out.below hb); replace HR := Lib.hid (HR.out.below hb); clear hb; (try clear c0 c1); obtain ⟨c0, c1⟩ := HR.out.c2
    go_wp2
    have HL := Lib.hid HR.out.lt
    clear c0 c1
    go_loopw [7, 8] (fun u j wr => ∃ m : Nat, m ≤ xs.length ∧ j = .int .i64 m ∧ Hid (Below w_.heap.size w_ wr ∧ wr.ownsRow w_.heap.size 2 1 u (numsN (awayP (nth xs I)) xs m).length ((numsN (awayP (nth xs I)) xs m).map (Value.int .i64)))) (fun _ j _ => xs.length - (intOf j).toNat)
    case atStart => exact ⟨0, by omega, rfl, below_alloc _ _, own_empty _ _ _⟩
    case round =>
      obtain ⟨m, hm, rfl, HC⟩ := hrel
      obtain ⟨c0, c1⟩ := (HR.out.below HC.out.1).c2
      have hsz := (HR.out.below HC.out.1).lt
      have hnl := numsN_len (awayP (nth xs I)) xs m
      by_cases hlt : m < xs.length
      · obtain ⟨b1, o1, hA1, hb1, p0, p1, p2⟩ := (HA.out.below HC.out.1).at_ hlt
        subst hA1
        obtain ⟨b2, o2, hA2, hb2, q0, q1, q2⟩ := (HA.out.below HC.out.1).at_ hI
        simp only [Option.some.injEq, Addr.mk.injEq] at hA2
        obtain ⟨rfl, rfl, -⟩ := hA2
        have HI := Lib.hid (away_iff hAre.out hI hlt)
        have HNS : Hid (numsN (awayP (nth xs I)) xs (m + 1) = numsN (awayP (nth xs I)) xs m ++ (if awayP (nth xs I) (nth xs m) then [(m : Int)] else [])) := rfl
        by_cases e1 : m = I
        · have e1' : ((m : Int) != (I : Int)) = false := by simp [e1]
          have HE := Lib.hid e1; clear e1
          go_wp2
          refine wp_region_ge_lit (by kernel_rfl) (by kernel_rfl) ?_; (repeat (go_big_quiet_step ((go_at_call 56; exact ge_call (l01Common_any _ _ _))))); refine wpQuiet_nil ?_
          rintro w3 ⟨x, rfl⟩
          go_wp2
          go_roundw
          case rel => exact ⟨m + 1, by omega, by go_num, below_up HC.out.1 (ge_below _ _), by rw [HNS.out, if_neg (fun h => (HI.out.1 h).1 HE.out), List.append_nil]; exact own_below HC.out.2 (ge_below _ _)⟩
          case measure => simp [intOf]; omega
        · have e1' : ((m : Int) != (I : Int)) = true := by rw [bne_iff_ne]; omega
          have HE := Lib.hid e1; clear e1
          by_cases e3 : 0 < comI (nth xs I) (nth xs m)
          · go_wp2
            refine wp_region_ge_lit (by kernel_rfl) (by kernel_rfl) ?_; (repeat (go_big_quiet_step ((go_at_call 56; exact ge_call (l01Common_any _ _ _))))); refine wpQuiet_nil ?_
            rintro w3 ⟨x, rfl⟩
            have HB2 : Hid (Below w_.heap.size w_ (ge wr x)) := below_up HC.out.1 (ge_below _ _)
            have HO := Lib.hid (own_below HC.out.2 (ge_below wr x))
            go_wp2_with (at_builtin; refine wpList_append_own _ rfl _ _ 42 rfl w_.heap.size 2 i0 (.int .i64 0) 1 8 Try.underlying42 hi hz0 hz1 hz2 rfl (by decide) _ _ _ rfl (HO.out.alloc _) ⟨(ge wr x).heap.size, 0, none⟩ 1 1 [.int .i64 m] rfl rfl (cells_new _ _ _) (by simp [Value.oneCell']) (by unfold maxLen; omega) (by have := HB2.out.size; omega) (by have := HB2.out.size; simp; omega) ?_; intro v2 w2 hown2 hg2 _)
            have HO2 := Lib.hid hown2
            have HB3 : Hid (Below w_.heap.size w_ w2) := (HB2.out.alloc HB2.out.size _).grown hg2 (by have := HB2.out.size; simp; omega) (own_block HO.out)
            clear hown2 hg2
            go_wp2
            go_roundw
            case rel => exact ⟨m + 1, by omega, by go_num, HB3.out, by rw [HNS.out, if_pos (HI.out.2 ⟨HE.out, e3⟩)]; simpa using HO2.out⟩
            case measure => simp [intOf]; omega
          · have e3' : decide (0 < comI (nth xs I) (nth xs m)) = false := by simpa using e3
            have HE3 := Lib.hid e3
            clear e3
            go_wp2
            refine wp_region_ge_lit (by kernel_rfl) (by kernel_rfl) ?_; (repeat (go_big_quiet_step ((go_at_call 56; exact ge_call (l01Common_any _ _ _))))); refine wpQuiet_nil ?_
            rintro w3 ⟨x, rfl⟩
            go_wp2
            go_roundw
            case rel => exact ⟨m + 1, by omega, by go_num, below_up HC.out.1 (ge_below _ _), by rw [HNS.out, if_neg (fun h => absurd (HI.out.1 h).2 (by have := HE3.out; omega)), List.append_nil]; exact own_below HC.out.2 (ge_below _ _)⟩
            case measure => simp [intOf]; omega
      · obtain rfl : m = xs.length := by omega
        go_wp2
        go_ret2
        exact LP.mk (own_base HC.out.2 HW.out.size) (by rw [HN.out, if_neg (by simp [H.out])]; rfl) (by rw [HN.out, if_neg (by simp [H.out])]) (HW.out.below HC.out.1)
  · have h1' : (numCode v xs i != 0) = true := by simpa using h1
    have h1'' : (numCode v xs i == 0) = false := by simpa using h1
    have H := Lib.hid h1; clear h1
    have HA := Lib.hid hA; clear hA; have HR := Lib.hid (Row.box w 30 (.int .i64 v) (.slice A xs.length c)); have HW := Lib.hid (Since.refl w); go_enter Try.func44, Try.ntmps44; go_wp2_with fail; replace HA := Lib.hid (HA.out.below (below_alloc _ (.cells #[.int .i64 v, .slice A xs.length c] 30))); replace HW := Lib.hid (HW.out.below (below_alloc _ (.cells #[.int .i64 v, .slice A xs.length c] 30)))
    refine (l05Number_any v A c xs i _ HA.out hl).mono ?_; rintro e w_ ⟨rfl, hb⟩; replace HA := Lib.hid (HA.out.below hb); replace HW := Lib.hid (HW.out.below hb); replace HR := Lib.hid (HR.out.below hb); clear hb; (try clear c0 c1); obtain ⟨c0, c1⟩ := HR.out.c2
    go_wp2
    go_ret2
    exact LP.nil (by rw [HN.out, if_pos H.out]) (by rw [HN.out, if_pos H.out]) HW.out

theorem implMeet_any (v : Int) (A : Option Addr) (c : Nat) (xs : List Blk) (i : Int) (w : World) (hA : Bl w A xs) (hl : xs.length ≤ 1048576) :
    Calls Try.prog 45 #[.agg #[.int .i64 v, .slice A xs.length c], .int .i64 i] w (LP w (meetR v xs i).1 (meetR v xs i).2) := by
  cases hs : isSysB v xs
  · have HN : Hid (meetR v xs i = ([], 1)) := by unfold Hid meetR numCode; simp [hs]
    have HA := Lib.hid hA; clear hA; have HR := Lib.hid (Row.box w 30 (.int .i64 v) (.slice A xs.length c)); have HW := Lib.hid (Since.refl w); go_enter Try.func45, Try.ntmps45; go_wp2_with fail; replace HA := Lib.hid (HA.out.below (below_alloc _ (.cells #[.int .i64 v, .slice A xs.length c] 30))); replace HW := Lib.hid (HW.out.below (below_alloc _ (.cells #[.int .i64 v, .slice A xs.length c] 30)))
    refine (IsSystem_any v A c xs _ HA.out hl).mono ?_; rw [hs]; rintro e w_ ⟨rfl, hb⟩; replace HA := Lib.hid (HA.out.below hb); replace HW := Lib.hid (HW.out.below hb); replace HR := Lib.hid (HR.out.below hb); clear hb; (try clear c0 c1); obtain ⟨c0, c1⟩ := HR.out.c2
    go_wp2
    go_ret2
    exact LP.nil (by rw [HN.out]) (by rw [HN.out]) HW.out
  · by_cases h1 : 0 ≤ i ∧ i ≤ (xs.length : Int) - 1
    · have HN : Hid (meetR v xs i = (nums (awayP (nth xs i.toNat)) xs, 0)) := by unfold Hid meetR numCode; simp [hs, h1]
      obtain ⟨I, rfl⟩ := Int.eq_ofNat_of_zero_le h1.1
      have hI : I < xs.length := by omega
      have D1 := Lib.hid (decide_eq_true h1)
      clear h1
      have HA := Lib.hid hA; clear hA; have HR := Lib.hid (Row.box w 30 (.int .i64 v) (.slice A xs.length c)); have HW := Lib.hid (Since.refl w); go_enter Try.func45, Try.ntmps45; go_wp2_with fail; replace HA := Lib.hid (HA.out.below (below_alloc _ (.cells #[.int .i64 v, .slice A xs.length c] 30))); replace HW := Lib.hid (HW.out.below (below_alloc _ (.cells #[.int .i64 v, .slice A xs.length c] 30)))
      refine (IsSystem_any v A c xs _ HA.out hl).mono ?_; rw [hs]; rintro e w_ ⟨rfl, hb⟩; replace HA := Lib.hid (HA.out.below hb); replace HW := Lib.hid (HW.out.below hb); replace HR := Lib.hid (HR.out.below hb); clear hb; (try clear c0 c1); obtain ⟨c0, c1⟩ := HR.out.c2
      go_wp2_with fail
      refine (isNumber_any v A c xs.length I _ hl).mono ?_; rw [D1.out]; rintro e w_ ⟨rfl, hb⟩; replace HA := Lib.hid (HA.out.below hb); replace HW := Lib.hid (HW.out.below hb); replace HR := Lib.hid (HR.out.below hb); clear hb; (try clear c0 c1); obtain ⟨c0, c1⟩ := HR.out.c2
      obtain ⟨b1, o1, hA1, hb1, p0, p1, p2⟩ := HA.out.at_ hI
      subst hA1
      have hsz := HR.out.lt
      have hX := Box.new w_ (nth xs I) 65
      have hZ := below_alloc w_ (.cells #[.int .i64 (nth xs I).1, .int .i64 (nth xs I).2.1, .int .i64 (nth xs I).2.2] 65)
      go_wp2_with fail
      refine (numbersOf_any v (some ⟨b1, o1, none⟩) c xs 87 #[.pointer (some ⟨w_.heap.size, 0, none⟩)] (awayP (nth xs I)) _ (HA.out.below hZ) hl (fun args w => by kernel_rfl)
        (fun W b hb => meetCl_any (nth xs I) b _ W (hX.below hb))).mono ?_
      rintro e w4 ⟨u, rfl, hown, hb⟩
      have HB := Lib.hid ((HW.out.below hZ).below hb)
      have HO := Lib.hid (own_base hown (Nat.le_trans HW.out.size hZ.size))
      clear hb hown hX hZ
      go_wp2
      go_ret2
      exact LP.mk HO.out (by rw [HN.out]; rfl) (by rw [HN.out]) HB.out
    · have HN : Hid (meetR v xs i = ([], 2)) := by unfold Hid meetR numCode; simp [hs, h1]
      have D1 := Lib.hid (decide_eq_false h1)
      clear h1
      have HA := Lib.hid hA; clear hA; have HR := Lib.hid (Row.box w 30 (.int .i64 v) (.slice A xs.length c)); have HW := Lib.hid (Since.refl w); go_enter Try.func45, Try.ntmps45; go_wp2_with fail; replace HA := Lib.hid (HA.out.below (below_alloc _ (.cells #[.int .i64 v, .slice A xs.length c] 30))); replace HW := Lib.hid (HW.out.below (below_alloc _ (.cells #[.int .i64 v, .slice A xs.length c] 30)))
      refine (IsSystem_any v A c xs _ HA.out hl).mono ?_; rw [hs]; rintro e w_ ⟨rfl, hb⟩; replace HA := Lib.hid (HA.out.below hb); replace HW := Lib.hid (HW.out.below hb); replace HR := Lib.hid (HR.out.below hb); clear hb; (try clear c0 c1); obtain ⟨c0, c1⟩ := HR.out.c2
      go_wp2_with fail
      refine (isNumber_any v A c xs.length i _ hl).mono ?_; rw [D1.out]; rintro e w_ ⟨rfl, hb⟩; replace HA := Lib.hid (HA.out.below hb); replace HW := Lib.hid (HW.out.below hb); replace HR := Lib.hid (HR.out.below hb); clear hb; (try clear c0 c1); obtain ⟨c0, c1⟩ := HR.out.c2
      go_wp2
      go_ret2
      exact LP.nil (by rw [HN.out]) (by rw [HN.out]) HW.out

end Go.Proofs.Ytbiepcafnhhfgaa
