/- Contracts for LoopProduct and TurnOf, of the reference and of the program; conditions: stated in each. -/
import Derived.Test.YtpdkkbimhhhjmaaW19
namespace Go.Proofs.Ytpdkkbimhhhjmaa
open Go.RowKit
set_option maxHeartbeats 400000
set_option maxRecDepth 100000
set_option linter.unusedSimpArgs false
set_option linter.unusedVariables false

theorem elCode_zero {v : Int} {xs : List Blk} {m : Int} {ls : List Int} (h : elCode v xs m ls = 0) : isSysB v xs = true ∧ allIn ls m ∧ fullB v xs = true := by
  unfold elCode at h
  (repeat' split at h) <;> first | exact ⟨by assumption, allInB_iff.1 (by assumption), by assumption⟩ | cases h
theorem elCode_bad {v : Int} {xs : List Blk} {m m' : Int} {ls : List Int} (h : isSysB v xs = false) : elCode v xs m ls = elCode v xs m' ls := by
  unfold elCode; rw [h]; rfl
theorem in_two {a b m : Int} (h : allIn [a, b] m) : (0 ≤ a ∧ a ≤ m) ∧ (0 ≤ b ∧ b ≤ m) := ⟨h 0 (by simp), h 1 (by simp)⟩
theorem in_one {a m : Int} (h : allIn [a] m) : 0 ≤ a ∧ a ≤ m := h 0 (by simp)
theorem grid_prod {n : Nat} {xs : List Blk} (hs : isSys n xs) {a b : Nat} (ha : a < n) (hb : b < n) : prodG (gridN xs xs.length) a b = prodI xs a b := by
  have hv := hs.1
  unfold prodG prodI
  split
  · rfl
  · exact gridN_third hs (by omega) (by omega) (by omega) (by assumption)
theorem grid_loop {n : Nat} {xs : List Blk} (hs : isSys n xs) {a b : Nat} (ha : a < n + 1) (hb : b < n + 1) : loopG (gridN xs xs.length) n a b = loopI xs n a b := by
  have hv := hs.1
  unfold loopG loopI
  split
  · rfl
  · split
    · rfl
    · split
      · rfl
      · exact gridN_third hs (by omega) (by omega) (by omega) (by assumption)

noncomputable def loopR (v : Int) (xs : List Blk) (a b : Int) : Int × Int := if elCode v xs v [a, b] ≠ 0 then (0, elCode v xs v [a, b]) else (loopI xs v a b, 0)
noncomputable def turnR (v : Int) (xs : List Blk) (a : Int) : List Int × Int := if elCode v xs (v - 1) [a] ≠ 0 then ([], elCode v xs (v - 1) [a]) else (tabR (prodI xs) v.toNat a.toNat, 0)
theorem turnR_bd (v : Int) (xs : List Blk) (a : Int) : (turnR v xs a).1.length ≤ 15 := by
  unfold turnR
  by_cases h : elCode v xs (v - 1) [a] = 0
  · rw [if_neg (by simpa using h)]
    have := (isSysB_iff.1 (elCode_zero h).1).1
    simp only [tabR_len]; omega
  · rw [if_pos h]; simp

theorem specLoop_any (v : Int) (A : Option Addr) (c : Nat) (xs : List Blk) (a b : Int) (w : World) (hA : Bl w A xs) (hl : xs.length ≤ 1048576) :
    Calls Try.prog 28 #[.agg #[.int .i64 v, .slice A xs.length c], .int .i64 a, .int .i64 b] w fun e w' => e = .returned (.tuple #[.int .i64 (loopR v xs a b).1, .int .i64 (loopR v xs a b).2]) ∧ Below w.heap.size w w' := by
  have HN : Hid (loopR v xs a b = if elCode v xs v [a, b] ≠ 0 then (0, elCode v xs v [a, b]) else (loopI xs v a b, 0)) := rfl
  generalize loopR v xs a b = R at *
  have HI := Lib.hid (Il.new1 w (.cells #[.int .i64 v, .slice A xs.length c] 30) [a, b] 2)
  have HV : Hid (isSysB v xs = true → 0 ≤ wrap64 (v + 1) ∧ wrap64 (v + 1) ≤ 100) := fun h => by
    have := (isSysB_iff.1 h).1
    have e : wrap64 (v + 1) = v + 1 := by go_unwrap
    rw [e]; omega
  have hm : wrap64 (v + 1) - 1 = v ∨ isSysB v xs = false := by
    cases hs : isSysB v xs
    · exact .inr rfl
    · have := (isSysB_iff.1 hs).1
      have e : wrap64 (v + 1) = v + 1 := by go_unwrap
      left; rw [e]; omega
  have he : elCode v xs (wrap64 (v + 1) - 1) [a, b] = elCode v xs v [a, b] := by
    rcases hm with h | h
    · rw [h]
    · exact elCode_bad h
  have HEQ := Lib.hid he
  clear hm he
  by_cases h1 : elCode v xs v [a, b] = 0
  · obtain ⟨hs, hin, _⟩ := elCode_zero h1
    have hin2 := in_two hin
    have hv := (isSysB_iff.1 hs).1
    have HS := Lib.hid (isSysB_iff.1 hs)
    have H := Lib.hid h1; clear h1 hin hs
    obtain ⟨n, rfl⟩ := Int.eq_ofNat_of_zero_le (by omega : 0 ≤ v)
    obtain ⟨a, rfl⟩ := Int.eq_ofNat_of_zero_le hin2.1.1
    obtain ⟨b, rfl⟩ := Int.eq_ofNat_of_zero_le hin2.2.1
    have e : wrap64 ((n : Int) + 1) = n + 1 := by go_unwrap
    have HE : Hid (elCode n xs ((n : Int) + 1 - 1) [(a : Int), (b : Int)] = 0) := by unfold Hid; rw [← e, HEQ.out]; exact H.out
    have HV2 : Hid (isSysB n xs = true → 0 ≤ (n : Int) + 1 ∧ (n : Int) + 1 ≤ 100) := fun h => by omega
    clear e HV HEQ
    have v := (n : Int)
    go_enter Try.func28, Try.ntmps28
    have HA := Lib.hid hA; clear hA; have HR := Lib.hid (Row.box w 30 (.int .i64 n) (.slice A xs.length c)); have HW := Lib.hid (Since.refl w)
    replace HA := Lib.hid (HA.out.below (below_alloc _ (.cells #[.int .i64 n, .slice A xs.length c] 30))); replace HW := Lib.hid (HW.out.below (below_alloc _ (.cells #[.int .i64 n, .slice A xs.length c] 30)))
    go_wp2_with fail
    replace HA := Lib.hid (HA.out.below (below_alloc _ (.cells #[.int .i64 a, .int .i64 b] 2))); replace HW := Lib.hid (HW.out.below (below_alloc _ (.cells #[.int .i64 a, .int .i64 b] 2))); replace HR := Lib.hid (HR.out.below (below_alloc _ (.cells #[.int .i64 a, .int .i64 b] 2))); (try clear c0 c1); obtain ⟨c0, c1⟩ := HR.out.c2
    refine (l09Points_any n A c xs ((n : Int) + 1) (some ⟨w.heap.size + 1, 0, none⟩) 2 [(a : Int), (b : Int)] _ HA.out hl HI.out (by simp) HV2.out).mono ?_
    rw [HE.out]
    rintro e w_ ⟨rfl, hb⟩
    replace HA := Lib.hid (HA.out.below hb); replace HW := Lib.hid (HW.out.below hb); replace HR := Lib.hid (HR.out.below hb); clear hb; (try clear c0 c1); obtain ⟨c0, c1⟩ := HR.out.c2
    go_wp2_with fail
    refine (l09Loop_any n A c xs _ HA.out hl HS.out).mono ?_
    rintro e W ⟨u, hs, rfl, hL, hb⟩
    replace HW := Lib.hid (HW.out.below hb); clear hb
    obtain ⟨gu, cu, rfl, hgb, hgl⟩ := hL.form (by omega)
    have HT := hL.tb (by omega)
    obtain ⟨p1, o1, d1, hp1, q1, r1⟩ := HT.2 a (by omega)
    have t1 := r1 b (by omega)
    clear HT hL r1
    go_wp2
    go_ret2
    exact ⟨by rw [HN.out, if_neg (by simp [H.out])]; rfl, HW.out⟩
  · have h1' : (elCode v xs v [a, b] != 0) = true := by simpa using h1
    have h1'' : (elCode v xs v [a, b] == 0) = false := by simpa using h1
    have H := Lib.hid h1; clear h1
    have HA := Lib.hid hA; clear hA; have HR := Lib.hid (Row.box w 30 (.int .i64 v) (.slice A xs.length c)); have HW := Lib.hid (Since.refl w); go_enter Try.func28, Try.ntmps28; go_wp2_with fail; replace HA := Lib.hid (HA.out.below (below_alloc _ (.cells #[.int .i64 v, .slice A xs.length c] 30))); replace HW := Lib.hid (HW.out.below (below_alloc _ (.cells #[.int .i64 v, .slice A xs.length c] 30)))
    replace HA := Lib.hid (HA.out.below (below_alloc _ (.cells #[.int .i64 a, .int .i64 b] 2))); replace HW := Lib.hid (HW.out.below (below_alloc _ (.cells #[.int .i64 a, .int .i64 b] 2))); replace HR := Lib.hid (HR.out.below (below_alloc _ (.cells #[.int .i64 a, .int .i64 b] 2))); (try clear c0 c1); obtain ⟨c0, c1⟩ := HR.out.c2
    refine (l09Points_any v A c xs (wrap64 (v + 1)) (some ⟨w.heap.size + 1, 0, none⟩) 2 [a, b] _ HA.out hl HI.out (by simp) HV.out).mono ?_
    rw [HEQ.out]
    rintro e w_ ⟨rfl, hb⟩
    replace HW := Lib.hid (HW.out.below hb); clear hb
    go_wp2
    go_ret2
    exact ⟨by rw [HN.out, if_pos H.out]; rfl, HW.out⟩

theorem implLoop_any (v : Int) (A : Option Addr) (c : Nat) (xs : List Blk) (a b : Int) (w : World) (hA : Bl w A xs) (hl : xs.length ≤ 1048576) :
    Calls Try.prog 29 #[.agg #[.int .i64 v, .slice A xs.length c], .int .i64 a, .int .i64 b] w fun e w' => e = .returned (.tuple #[.int .i64 (loopR v xs a b).1, .int .i64 (loopR v xs a b).2]) ∧ Below w.heap.size w w' := by
  have HN : Hid (loopR v xs a b = if elCode v xs v [a, b] ≠ 0 then (0, elCode v xs v [a, b]) else (loopI xs v a b, 0)) := rfl
  generalize loopR v xs a b = R at *
  have HI := Lib.hid (Il.new1 w (.cells #[.int .i64 v, .slice A xs.length c] 30) [a, b] 2)
  by_cases h1 : elCode v xs v [a, b] = 0
  · obtain ⟨hs, hin, _⟩ := elCode_zero h1
    have hin2 := in_two hin
    have HS := Lib.hid (isSysB_iff.1 hs)
    have hv := HS.out.1
    have H := Lib.hid h1; clear h1 hin hs
    have HL : Hid (loopG (gridN xs xs.length) v a b = loopI xs v a b) := by
      obtain ⟨n, rfl⟩ := Int.eq_ofNat_of_zero_le (by omega : 0 ≤ v)
      obtain ⟨a, rfl⟩ := Int.eq_ofNat_of_zero_le hin2.1.1
      obtain ⟨b, rfl⟩ := Int.eq_ofNat_of_zero_le hin2.2.1
      exact grid_loop HS.out (by omega) (by omega)
    have HA := Lib.hid hA; clear hA; have HR := Lib.hid (Row.box w 30 (.int .i64 v) (.slice A xs.length c)); have HW := Lib.hid (Since.refl w); go_enter Try.func29, Try.ntmps29; go_wp2_with fail; replace HA := Lib.hid (HA.out.below (below_alloc _ (.cells #[.int .i64 v, .slice A xs.length c] 30))); replace HW := Lib.hid (HW.out.below (below_alloc _ (.cells #[.int .i64 v, .slice A xs.length c] 30)))
    replace HA := Lib.hid (HA.out.below (below_alloc _ (.cells #[.int .i64 a, .int .i64 b] 2))); replace HW := Lib.hid (HW.out.below (below_alloc _ (.cells #[.int .i64 a, .int .i64 b] 2))); replace HR := Lib.hid (HR.out.below (below_alloc _ (.cells #[.int .i64 a, .int .i64 b] 2))); (try clear c0 c1); obtain ⟨c0, c1⟩ := HR.out.c2
    refine (elementsCode_any v A c xs _ (some ⟨w.heap.size + 1, 0, none⟩) 2 [a, b] _ HA.out hl HI.out (by simp)).mono ?_; rw [H.out]; rintro e w_ ⟨rfl, hb⟩; replace HA := Lib.hid (HA.out.below hb); replace HW := Lib.hid (HW.out.below hb); replace HR := Lib.hid (HR.out.below hb); clear hb; (try clear c0 c1); obtain ⟨c0, c1⟩ := HR.out.c2
    go_wp2
    have HKEEP := Lib.hid (And.intro c0 c1)
    clear c0 c1
    go_region_held3 (fun w' => w'.cell? ⟨w.heap.size, 0, none⟩ = some (.int .i64 v) ∧ w'.cell? ⟨w.heap.size, 1, none⟩ = some (.slice A xs.length c)) (first | exact HKEEP.out) (first
      | (go_at_call 73
         refine (grid_any v A c xs _ (HA.out.below (below_drew _)) hl HS.out).mono ?_
         rintro e w1 ⟨g, rfl, hle, hGr, hb⟩
         have HGr := Lib.hid hGr
         replace HW := Lib.hid (HW.out.below (below_up (below_drew _) hb))
         replace HKEEP := Lib.hid (HR.out.below (below_up (below_drew _) hb)).c2
         clear hb hGr hle)
      | (go_at_call 74
         refine (gridLoop_any g _ v a b _ HGr.out hv.2 hin2.1 hin2.2).mono ?_
         rw [HL.out]
         rintro e w' ⟨rfl, rfl⟩))
    all_goals
      go_wp2
      go_ret2
      exact ⟨by rw [HN.out, if_neg (by simp [H.out])]; rfl, HW.out⟩
  · have h1' : (elCode v xs v [a, b] != 0) = true := by simpa using h1
    have h1'' : (elCode v xs v [a, b] == 0) = false := by simpa using h1
    have H := Lib.hid h1; clear h1
    have HA := Lib.hid hA; clear hA; have HR := Lib.hid (Row.box w 30 (.int .i64 v) (.slice A xs.length c)); have HW := Lib.hid (Since.refl w); go_enter Try.func29, Try.ntmps29; go_wp2_with fail; replace HA := Lib.hid (HA.out.below (below_alloc _ (.cells #[.int .i64 v, .slice A xs.length c] 30))); replace HW := Lib.hid (HW.out.below (below_alloc _ (.cells #[.int .i64 v, .slice A xs.length c] 30)))
    replace HA := Lib.hid (HA.out.below (below_alloc _ (.cells #[.int .i64 a, .int .i64 b] 2))); replace HW := Lib.hid (HW.out.below (below_alloc _ (.cells #[.int .i64 a, .int .i64 b] 2))); replace HR := Lib.hid (HR.out.below (below_alloc _ (.cells #[.int .i64 a, .int .i64 b] 2))); (try clear c0 c1); obtain ⟨c0, c1⟩ := HR.out.c2
    refine (elementsCode_any v A c xs _ (some ⟨w.heap.size + 1, 0, none⟩) 2 [a, b] _ HA.out hl HI.out (by simp)).mono ?_; rintro e w_ ⟨rfl, hb⟩; replace HW := Lib.hid (HW.out.below hb); clear hb
    go_wp2
    go_ret2
    exact ⟨by rw [HN.out, if_pos H.out]; rfl, HW.out⟩

end Go.Proofs.Ytpdkkbimhhhjmaa
