/- Contracts for BlocksAt, of the reference and of the program; conditions: stated in each. -/
import Derived.Test.YtpdkkbimhhhjmaaQLeave
namespace Go.Proofs.Ytpdkkbimhhhjmaa
open Go.RowKit
set_option maxHeartbeats 400000
set_option maxRecDepth 100000
set_option linter.unusedSimpArgs false
set_option linter.unusedVariables false

/-- the code of a system and of points -/
noncomputable def ptCode (v : Int) (xs : List Blk) (ls : List Int) : Int := if isSysB v xs = true then (if allInB ls (v - 1) = true then 0 else 2) else 1
theorem l01Points_any (v : Int) (A : Option Addr) (c : Nat) (xs : List Blk) (B : Option Addr) (d : Nat) (ls : List Int) (w : World) (hA : Bl w A xs) (hl : xs.length ≤ 1048576) (hB : Il w B ls) (hlb : ls.length ≤ 1048576) :
    Calls Try.prog 59 #[.agg #[.int .i64 v, .slice A xs.length c], .slice B ls.length d] w fun e w' => e = .returned (.int .i64 (ptCode v xs ls)) ∧ Below w.heap.size w w' := by
  have HB := Lib.hid hB; clear hB
  cases hs : isSysB v xs
  · have HA := Lib.hid hA; clear hA; have HR := Lib.hid (Row.box w 30 (.int .i64 v) (.slice A xs.length c)); have HW := Lib.hid (Since.refl w); go_enter Try.func59, Try.ntmps59; go_wp2_with fail; replace HA := Lib.hid (HA.out.below (below_alloc _ (.cells #[.int .i64 v, .slice A xs.length c] 30))); replace HW := Lib.hid (HW.out.below (below_alloc _ (.cells #[.int .i64 v, .slice A xs.length c] 30)))
    refine (l01Is_any v A c xs _ HA.out hl).mono ?_; rw [hs]; rintro e w_ ⟨rfl, hb⟩; replace HW := Lib.hid (HW.out.below hb); clear hb
    go_wp2
    go_ret
    exact ⟨ret_int (by simp [ptCode, hs]), HW.out⟩
  · have hv := (isSysB_iff.1 hs).1
    have HE : Hid (ptCode v xs ls = if allInB ls (v - 1) = true then 0 else 2) := by unfold Hid ptCode; rw [if_pos hs]
    have HA := Lib.hid hA; clear hA; have HR := Lib.hid (Row.box w 30 (.int .i64 v) (.slice A xs.length c)); have HW := Lib.hid (Since.refl w); go_enter Try.func59, Try.ntmps59; go_wp2_with fail; replace HA := Lib.hid (HA.out.below (below_alloc _ (.cells #[.int .i64 v, .slice A xs.length c] 30))); replace HW := Lib.hid (HW.out.below (below_alloc _ (.cells #[.int .i64 v, .slice A xs.length c] 30))); replace HB := Lib.hid (HB.out.below (below_alloc _ (.cells #[.int .i64 v, .slice A xs.length c] 30)))
    refine (l01Is_any v A c xs _ HA.out hl).mono ?_; rw [hs]; rintro e w_ ⟨rfl, hb⟩; replace HA := Lib.hid (HA.out.below hb); replace HB := Lib.hid (HB.out.below hb); replace HW := Lib.hid (HW.out.below hb); replace HR := Lib.hid (HR.out.below hb); clear hb; (try clear c0 c1); obtain ⟨c0, c1⟩ := HR.out.c2
    go_wp2
    clear c0 c1
    go_loopw [5] (fun i wr => ∃ k : Nat, k ≤ ls.length ∧ i = .int .i64 k ∧ Below w_.heap.size w_ wr ∧ Hid (∀ j, j < k → 0 ≤ nthI ls j ∧ nthI ls j ≤ v - 1)) (fun i _ => ls.length - (intOf i).toNat)
    case atStart => exact ⟨0, by omega, rfl, Below.refl _ _, fun i hi => by omega⟩
    case round =>
      obtain ⟨k, hk, rfl, hb, HC⟩ := hrel
      obtain ⟨c0, c1⟩ := (HR.out.below hb).c2
      by_cases hlt : k < ls.length
      · obtain ⟨b1, o1, hA1, hb1, p0⟩ := (HB.out.below hb).at_ hlt
        subst hA1
        have hwr : IntKind.i64.wrap (v - 1) = v - 1 := by go_arith
        by_cases hin : 0 ≤ nthI ls k ∧ nthI ls k ≤ v - 1
        · have HIN := Lib.hid hin
          have HD : Hid (decide (0 ≤ nthI ls k ∧ nthI ls k ≤ IntKind.i64.wrap (v - 1)) = true) := by unfold Hid; rw [hwr]; exact decide_eq_true hin
          clear hin hwr
          go_wp2
          have HKEEP := Lib.hid (And.intro c0 (And.intro c1 p0))
          clear c0 c1 p0
          go_region_held3 (fun w' => w'.cell? ⟨w.heap.size, 0, none⟩ = some (.int .i64 v) ∧ w'.cell? ⟨w.heap.size, 1, none⟩ = some (.slice A xs.length c) ∧ w'.cell? ⟨b1, o1 + k, none⟩ = some (.int .i64 (nthI ls k))) (first | exact HKEEP.out) (first
            | (go_at_call 52; refine (l01In_any _ _ _ _).mono ?_; rw [HD.out]; rintro e w' ⟨rfl, rfl⟩))
          go_wp2
          go_roundw
          case rel =>
            refine ⟨k + 1, by omega, by go_num, below_up hb (below_drew _), fun j hj => ?_⟩
            by_cases hjk : j < k
            · exact HC.out j hjk
            · obtain rfl : j = k := by omega
              exact HIN.out
          case measure => simp [intOf]; omega
        · have HD : Hid (decide (0 ≤ nthI ls k ∧ nthI ls k ≤ IntKind.i64.wrap (v - 1)) = false) := by unfold Hid; rw [hwr]; exact decide_eq_false hin
          have HIN := Lib.hid hin
          clear hin hwr
          go_wp2
          have HKEEP := Lib.hid (And.intro c0 (And.intro c1 p0))
          clear c0 c1 p0
          go_region_held3 (fun w' => w'.cell? ⟨w.heap.size, 0, none⟩ = some (.int .i64 v) ∧ w'.cell? ⟨w.heap.size, 1, none⟩ = some (.slice A xs.length c) ∧ w'.cell? ⟨b1, o1 + k, none⟩ = some (.int .i64 (nthI ls k))) (first | exact HKEEP.out) (first
            | (go_at_call 52; refine (l01In_any _ _ _ _).mono ?_; rw [HD.out]; rintro e w' ⟨rfl, rfl⟩))
          go_wp2
          go_ret
          refine ⟨ret_int ?_, HW.out.below (below_up hb (below_drew _))⟩
          rw [HE.out, allInB_false fun h => HIN.out (h k hlt)]; rfl
      · obtain rfl : k = ls.length := by omega
        go_wp2
        go_ret
        refine ⟨ret_int ?_, HW.out.below hb⟩
        rw [HE.out, allInB_true HC.out]; rfl

theorem isPoint_any (v : Int) (A : Option Addr) (c n : Nat) (p : Int) (w : World) (hv : 0 ≤ v ∧ v ≤ 15) :
    Calls Try.prog 61 #[.agg #[.int .i64 v, .slice A n c], .int .i64 p] w fun e w' => e = .returned (.bool (decide (0 ≤ p ∧ p ≤ v - 1))) ∧ Below w.heap.size w w' := by
  go_enter Try.func61, Try.ntmps61
  have hb := below_alloc w (.cells #[.int .i64 v, .slice A n c] 30)
  obtain ⟨c0, c1⟩ := (Row.box w 30 (.int .i64 v) (.slice A n c)).c2
  go_wp2_with (go_at_call 56; refine (within_any _ _ _ _).mono ?_; rintro e w' ⟨rfl, rfl⟩)
  go_ret
  exact ⟨ret_bool (by simp), hb⟩

theorem atCl_any (b : Blk) (p : Int) (r : Nat) (w : World) (hM : w.cell? ⟨r, 0, none⟩ = some (.int .i64 p)) (hr : r < w.heap.size) :
    Calls Try.prog 63 #[.agg #[.int .i64 b.1, .int .i64 b.2.1, .int .i64 b.2.2], .pointer (some ⟨r, 0, none⟩)] w fun e w' => e = .returned (.bool (atP p b)) ∧ Below w.heap.size w w' := by
  have HW := Lib.hid (below_alloc w (.cells #[.int .i64 b.1, .int .i64 b.2.1, .int .i64 b.2.2] 72))
  go_enter Try.func63, Try.ntmps63
  go_wp2_with fail
  refine (has_any b p _).mono ?_
  rintro e w1 ⟨rfl, hb⟩
  have HB := Lib.hid (below_up HW.out hb); clear hb
  go_wp2
  go_ret
  exact ⟨rfl, HB.out⟩

noncomputable def atR (v : Int) (xs : List Blk) (p : Int) : List Int × Int := if isSysB v xs = true then (if 0 ≤ p ∧ p ≤ v - 1 then (nums (atP p) xs, 0) else ([], 2)) else ([], 1)
theorem atR_bd (v : Int) (xs : List Blk) (p : Int) : (atR v xs p).1.length ≤ xs.length := by
  unfold atR; (repeat' split)
  · exact numsN_len _ _ _
  · simp
  · simp
theorem allInB_one (p m : Int) : allInB [p] m = decide (0 ≤ p ∧ p ≤ m) := by
  rw [Bool.eq_iff_iff, allInB_iff]
  unfold allIn
  simp only [decide_eq_true_eq]
  constructor
  · intro h; exact h 0 (by simp)
  · intro h k hk
    obtain rfl : k = 0 := by simpa using hk
    exact h

theorem specAt_any (v : Int) (A : Option Addr) (c : Nat) (xs : List Blk) (p : Int) (w : World) (hA : Bl w A xs) (hl : xs.length ≤ 1048576) :
    Calls Try.prog 20 #[.agg #[.int .i64 v, .slice A xs.length c], .int .i64 p] w (LP w (atR v xs p).1 (atR v xs p).2) := by
  have HX := Lib.hid (Il.new1 w (.cells #[.int .i64 v, .slice A xs.length c] 30) [p] 2)
  have HC : ∀ k, ptCode v xs [p] = k → (k = if isSysB v xs = true then (if 0 ≤ p ∧ p ≤ v - 1 then 0 else 2) else 1) := by
    intro k hk; rw [← hk, ptCode, allInB_one]; simp
  by_cases h : isSysB v xs = true ∧ 0 ≤ p ∧ p ≤ v - 1
  · have hc : ptCode v xs [p] = 0 := by rw [HC _ rfl, if_pos h.1, if_pos h.2]
    have HN : Hid (atR v xs p = (nums (atP p) xs, 0)) := by unfold Hid atR; rw [if_pos h.1, if_pos h.2]
    clear HC h
    have HA := Lib.hid hA; clear hA; have HR := Lib.hid (Row.box w 30 (.int .i64 v) (.slice A xs.length c)); have HW := Lib.hid (Since.refl w); go_enter Try.func20, Try.ntmps20; go_wp2_with fail; replace HA := Lib.hid (HA.out.below (below_alloc _ (.cells #[.int .i64 v, .slice A xs.length c] 30))); replace HW := Lib.hid (HW.out.below (below_alloc _ (.cells #[.int .i64 v, .slice A xs.length c] 30)))
    refine (l01Points_any v A c xs _ _ [p] _ (HA.out.below (below_alloc _ _)) hl HX.out (by simp)).mono ?_
    rw [hc]
    rintro e w_ ⟨rfl, hb⟩
    have hb' := below_up (below_alloc _ _) hb; clear hb
    replace HA := Lib.hid (HA.out.below hb'); replace HW := Lib.hid (HW.out.below hb'); replace HR := Lib.hid (HR.out.below hb'); (try clear c0 c1); obtain ⟨c0, c1⟩ := HR.out.c2
    go_wp2_with fail
    refine (l01At_any v A c xs p _ HA.out hl).mono ?_
    rintro e w2 ⟨B, d, rfl, hown, hb⟩
    have HO := Lib.hid (own_base hown HW.out.size)
    clear hown
    replace HW := Lib.hid (HW.out.below hb); clear hb
    go_wp2
    go_ret2
    exact LP.mk HO.out (by rw [HN.out]) (by rw [HN.out]) HW.out
  · have hc : ptCode v xs [p] = (if isSysB v xs = true then 2 else 1) := by
      rw [HC _ rfl]; split
      · rename_i h1; rw [if_neg (fun h2 => h ⟨h1, h2⟩)]
      · rfl
    have HN : Hid (atR v xs p = ([], if isSysB v xs = true then 2 else 1)) := by
      unfold Hid atR; split
      · rename_i h1; rw [if_neg (fun h2 => h ⟨h1, h2⟩)]
      · rfl
    have hk : ∃ k : Int, k ≠ 0 ∧ k = (if isSysB v xs = true then 2 else 1) := ⟨_, by split <;> decide, rfl⟩
    obtain ⟨k, hk0, hk⟩ := hk
    rw [← hk] at HN hc
    have hk0' : (k != 0) = true := by simpa using hk0
    clear HC h hk hk0
    have HA := Lib.hid hA; clear hA; have HR := Lib.hid (Row.box w 30 (.int .i64 v) (.slice A xs.length c)); have HW := Lib.hid (Since.refl w); go_enter Try.func20, Try.ntmps20; go_wp2_with fail; replace HA := Lib.hid (HA.out.below (below_alloc _ (.cells #[.int .i64 v, .slice A xs.length c] 30))); replace HW := Lib.hid (HW.out.below (below_alloc _ (.cells #[.int .i64 v, .slice A xs.length c] 30)))
    refine (l01Points_any v A c xs _ _ [p] _ (HA.out.below (below_alloc _ _)) hl HX.out (by simp)).mono ?_
    rw [hc]
    rintro e w_ ⟨rfl, hb⟩
    have hb' := below_up (below_alloc _ _) hb; clear hb
    replace HW := Lib.hid (HW.out.below hb')
    go_wp2
    go_ret2
    exact LP.nil (by rw [HN.out]) (by rw [HN.out]) HW.out

theorem implAt_any (v : Int) (A : Option Addr) (c : Nat) (xs : List Blk) (p : Int) (w : World) (hA : Bl w A xs) (hl : xs.length ≤ 1048576) :
    Calls Try.prog 21 #[.agg #[.int .i64 v, .slice A xs.length c], .int .i64 p] w (LP w (atR v xs p).1 (atR v xs p).2) := by
  have HW : Hid (Since w _) := Lib.hid (below_up (below_alloc w (.cells #[.int .i64 v, .slice A xs.length c] 30)) (below_alloc _ (.cells #[.int .i64 p] 2)))
  have HA := Lib.hid (hA.below HW.out)
  have HR := Lib.hid ((Row.box w 30 (.int .i64 v) (.slice A xs.length c)).below (below_alloc _ (.cells #[.int .i64 p] 2)))
  have HM := Lib.hid (Row.new (w.alloc (.cells #[.int .i64 v, .slice A xs.length c] 30)) 2 #[.int .i64 p])
  rw [World.size_alloc] at HM
  clear hA
  cases hs : isSysB v xs
  · have HN : Hid (atR v xs p = ([], 1)) := by unfold Hid atR; simp [hs]
    go_enter Try.func21, Try.ntmps21
    go_wp2_with fail
    refine (IsSystem_any v A c xs _ HA.out hl).mono ?_; rw [hs]; rintro e w_ ⟨rfl, hb⟩; replace HW := Lib.hid (HW.out.below hb); clear hb
    go_wp2
    go_ret2
    exact LP.nil (by rw [HN.out]) (by rw [HN.out]) HW.out
  · have hv := (isSysB_iff.1 hs).1
    by_cases h1 : 0 ≤ p ∧ p ≤ v - 1
    · have HN : Hid (atR v xs p = (nums (atP p) xs, 0)) := by unfold Hid atR; rw [if_pos hs, if_pos h1]
      have D1 := Lib.hid (decide_eq_true h1)
      clear h1
      go_enter Try.func21, Try.ntmps21
      go_wp2_with fail
      refine (IsSystem_any v A c xs _ HA.out hl).mono ?_; rw [hs]; rintro e w_ ⟨rfl, hb⟩; replace HA := Lib.hid (HA.out.below hb); replace HW := Lib.hid (HW.out.below hb); replace HM := Lib.hid (HM.out.below hb); replace HR := Lib.hid (HR.out.below hb); clear hb; (try clear c0 c1); obtain ⟨c0, c1⟩ := HR.out.c2
      have m0 := HM.out.cell 0
      go_wp2_with fail
      clear m0
      refine (isPoint_any v A c xs.length p _ ⟨by omega, hv.2⟩).mono ?_; rw [D1.out]; rintro e w_ ⟨rfl, hb⟩; replace HA := Lib.hid (HA.out.below hb); replace HW := Lib.hid (HW.out.below hb); replace HM := Lib.hid (HM.out.below hb); replace HR := Lib.hid (HR.out.below hb); clear hb; (try clear c0 c1); obtain ⟨c0, c1⟩ := HR.out.c2
      go_wp2_with fail
      refine (numbersOf_any v A c xs 63 #[.pointer (some ⟨w.heap.size + 1, 0, none⟩)] (atP p) _ HA.out hl (fun args w => by kernel_rfl)
        (fun W b hb => atCl_any b p _ W ((HM.out.below hb).cell 0) (HM.out.below hb).lt)).mono ?_
      rintro e w4 ⟨u, rfl, hown, hb⟩
      have HO := Lib.hid (own_base hown HW.out.size)
      clear hown
      replace HW := Lib.hid (HW.out.below hb); clear hb
      go_wp2
      go_ret2
      exact LP.mk HO.out (by rw [HN.out]) (by rw [HN.out]) HW.out
    · have HN : Hid (atR v xs p = ([], 2)) := by unfold Hid atR; rw [if_pos hs, if_neg h1]
      have D1 := Lib.hid (decide_eq_false h1)
      clear h1
      go_enter Try.func21, Try.ntmps21
      go_wp2_with fail
      refine (IsSystem_any v A c xs _ HA.out hl).mono ?_; rw [hs]; rintro e w_ ⟨rfl, hb⟩; replace HA := Lib.hid (HA.out.below hb); replace HW := Lib.hid (HW.out.below hb); replace HM := Lib.hid (HM.out.below hb); replace HR := Lib.hid (HR.out.below hb); clear hb; (try clear c0 c1); obtain ⟨c0, c1⟩ := HR.out.c2
      have m0 := HM.out.cell 0
      go_wp2_with fail
      clear m0
      refine (isPoint_any v A c xs.length p _ ⟨by omega, hv.2⟩).mono ?_; rw [D1.out]; rintro e w_ ⟨rfl, hb⟩; replace HW := Lib.hid (HW.out.below hb); clear hb
      go_wp2
      go_ret2
      exact LP.nil (by rw [HN.out]) (by rw [HN.out]) HW.out

end Go.Proofs.Ytpdkkbimhhhjmaa
