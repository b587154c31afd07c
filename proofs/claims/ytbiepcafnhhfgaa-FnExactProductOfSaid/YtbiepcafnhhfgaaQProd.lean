/- Contracts for ProductOf, of the reference and of the program; conditions: stated in each. -/
import Derived.Test.YtbiepcafnhhfgaaW12
namespace Go.Proofs.Ytbiepcafnhhfgaa
open Go.RowKit
set_option maxHeartbeats 400000
set_option maxRecDepth 100000
set_option linter.unusedSimpArgs false
set_option linter.unusedVariables false

noncomputable def prodR (v : Int) (xs : List Blk) (a b : Int) : Int × Int := if elCode v xs (v - 1) [a, b] ≠ 0 then (0, elCode v xs (v - 1) [a, b]) else (prodI xs a b, 0)
theorem elCode_zero {v : Int} {xs : List Blk} {m : Int} {ls : List Int} (h : elCode v xs m ls = 0) : isSysB v xs = true ∧ allIn ls m ∧ fullB v xs = true := by
  unfold elCode at h
  (repeat' split at h) <;> first | exact ⟨by assumption, allInB_iff.1 (by assumption), by assumption⟩ | cases h
theorem elCode_bad {v : Int} {xs : List Blk} {m m' : Int} {ls : List Int} (h : isSysB v xs = false) : elCode v xs m ls = elCode v xs m' ls := by
  unfold elCode; rw [h]; rfl
theorem in_two {a b m : Int} (h : allIn [a, b] m) : (0 ≤ a ∧ a ≤ m) ∧ (0 ≤ b ∧ b ≤ m) := ⟨h 0 (by simp), h 1 (by simp)⟩

theorem specProd_any (v : Int) (A : Option Addr) (c : Nat) (xs : List Blk) (a b : Int) (w : World) (hA : Bl w A xs) (hl : xs.length ≤ 1048576) :
    Calls Try.prog 42 #[.agg #[.int .i64 v, .slice A xs.length c], .int .i64 a, .int .i64 b] w fun e w' => e = .returned (.tuple #[.int .i64 (prodR v xs a b).1, .int .i64 (prodR v xs a b).2]) ∧ Below w.heap.size w w' := by
  have HN : Hid (prodR v xs a b = if elCode v xs (v - 1) [a, b] ≠ 0 then (0, elCode v xs (v - 1) [a, b]) else (prodI xs a b, 0)) := rfl
  generalize prodR v xs a b = R at *
  have HI := Lib.hid (Il.new1 w (.cells #[.int .i64 v, .slice A xs.length c] 30) [a, b] 2)
  have HV : Hid (isSysB v xs = true → 0 ≤ v ∧ v ≤ 100) := fun h => by have := (isSysB_iff.1 h).1; omega
  by_cases h1 : elCode v xs (v - 1) [a, b] = 0
  · obtain ⟨hs, hin, _⟩ := elCode_zero h1
    have hin2 := in_two hin
    have hv := (isSysB_iff.1 hs).1
    have HS := Lib.hid (isSysB_iff.1 hs)
    have H := Lib.hid h1; clear h1 hin hs
    have HA := Lib.hid hA; clear hA; have HR := Lib.hid (Row.box w 30 (.int .i64 v) (.slice A xs.length c)); have HW := Lib.hid (Since.refl w); go_enter Try.func42, Try.ntmps42; go_wp2_with fail; replace HA := Lib.hid (HA.out.below (below_alloc _ (.cells #[.int .i64 v, .slice A xs.length c] 30))); replace HW := Lib.hid (HW.out.below (below_alloc _ (.cells #[.int .i64 v, .slice A xs.length c] 30)))
    replace HA := Lib.hid (HA.out.below (below_alloc _ (.cells #[.int .i64 a, .int .i64 b] 2))); replace HW := Lib.hid (HW.out.below (below_alloc _ (.cells #[.int .i64 a, .int .i64 b] 2))); replace HR := Lib.hid (HR.out.below (below_alloc _ (.cells #[.int .i64 a, .int .i64 b] 2))); (try clear c0 c1); obtain ⟨c0, c1⟩ := HR.out.c2
    refine (l09Points_any v A c xs v (some ⟨w.heap.size + 1, 0, none⟩) 2 [a, b] _ HA.out hl HI.out (by simp) HV.out).mono ?_; rw [H.out]; rintro e w_ ⟨rfl, hb⟩; replace HA := Lib.hid (HA.out.below hb); replace HW := Lib.hid (HW.out.below hb); replace HR := Lib.hid (HR.out.below hb); clear hb; (try clear c0 c1); obtain ⟨c0, c1⟩ := HR.out.c2
    go_wp2_with fail
    refine (l09Product_any v A c xs a b _ HA.out hl HS.out (by omega) (by omega)).mono ?_; rintro e w_ ⟨rfl, hb⟩; replace HW := Lib.hid (HW.out.below hb); clear hb
    go_wp2
    go_ret2
    exact ⟨by rw [HN.out, if_neg (by simp [H.out])]; rfl, HW.out⟩
  · have h1' : (elCode v xs (v - 1) [a, b] != 0) = true := by simpa using h1
    have h1'' : (elCode v xs (v - 1) [a, b] == 0) = false := by simpa using h1
    have H := Lib.hid h1; clear h1
    have HA := Lib.hid hA; clear hA; have HR := Lib.hid (Row.box w 30 (.int .i64 v) (.slice A xs.length c)); have HW := Lib.hid (Since.refl w); go_enter Try.func42, Try.ntmps42; go_wp2_with fail; replace HA := Lib.hid (HA.out.below (below_alloc _ (.cells #[.int .i64 v, .slice A xs.length c] 30))); replace HW := Lib.hid (HW.out.below (below_alloc _ (.cells #[.int .i64 v, .slice A xs.length c] 30)))
    replace HA := Lib.hid (HA.out.below (below_alloc _ (.cells #[.int .i64 a, .int .i64 b] 2))); replace HW := Lib.hid (HW.out.below (below_alloc _ (.cells #[.int .i64 a, .int .i64 b] 2))); replace HR := Lib.hid (HR.out.below (below_alloc _ (.cells #[.int .i64 a, .int .i64 b] 2))); (try clear c0 c1); obtain ⟨c0, c1⟩ := HR.out.c2
    refine (l09Points_any v A c xs v (some ⟨w.heap.size + 1, 0, none⟩) 2 [a, b] _ HA.out hl HI.out (by simp) HV.out).mono ?_; rintro e w_ ⟨rfl, hb⟩; replace HW := Lib.hid (HW.out.below hb); clear hb
    go_wp2
    go_ret2
    exact ⟨by rw [HN.out, if_pos H.out]; rfl, HW.out⟩

theorem implProd_any (v : Int) (A : Option Addr) (c : Nat) (xs : List Blk) (a b : Int) (w : World) (hA : Bl w A xs) (hl : xs.length ≤ 1048576) :
    Calls Try.prog 43 #[.agg #[.int .i64 v, .slice A xs.length c], .int .i64 a, .int .i64 b] w fun e w' => e = .returned (.tuple #[.int .i64 (prodR v xs a b).1, .int .i64 (prodR v xs a b).2]) ∧ Below w.heap.size w w' := by
  have HN : Hid (prodR v xs a b = if elCode v xs (v - 1) [a, b] ≠ 0 then (0, elCode v xs (v - 1) [a, b]) else (prodI xs a b, 0)) := rfl
  generalize prodR v xs a b = R at *
  have HI := Lib.hid (Il.new1 w (.cells #[.int .i64 v, .slice A xs.length c] 30) [a, b] 2)
  have hm : wrap64 (v - 1) = v - 1 ∨ isSysB v xs = false := by
    cases hs : isSysB v xs
    · exact .inr rfl
    · have := (isSysB_iff.1 hs).1; left; go_unwrap
  have he : elCode v xs (wrap64 (v - 1)) [a, b] = elCode v xs (v - 1) [a, b] := by
    rcases hm with h | h
    · rw [h]
    · exact elCode_bad h
  have HEQ := Lib.hid he
  clear hm he
  by_cases h1 : elCode v xs (v - 1) [a, b] = 0
  · obtain ⟨hs, hin, _⟩ := elCode_zero h1
    have hin2 := in_two hin
    have HS := Lib.hid (isSysB_iff.1 hs)
    have hv := HS.out.1
    have HG : Hid (a ≠ b → gridN xs xs.length (a.toNat * 15 + b.toNat) = third xs a b) := fun hne => gridN_third HS.out hin2.1.1 hin2.2.1 (by omega) hne
    have H := Lib.hid h1; clear h1 hin hs
    have HA := Lib.hid hA; clear hA; have HR := Lib.hid (Row.box w 30 (.int .i64 v) (.slice A xs.length c)); have HW := Lib.hid (Since.refl w); go_enter Try.func43, Try.ntmps43; go_wp2_with fail; replace HA := Lib.hid (HA.out.below (below_alloc _ (.cells #[.int .i64 v, .slice A xs.length c] 30))); replace HW := Lib.hid (HW.out.below (below_alloc _ (.cells #[.int .i64 v, .slice A xs.length c] 30)))
    replace HA := Lib.hid (HA.out.below (below_alloc _ (.cells #[.int .i64 a, .int .i64 b] 2))); replace HW := Lib.hid (HW.out.below (below_alloc _ (.cells #[.int .i64 a, .int .i64 b] 2))); replace HR := Lib.hid (HR.out.below (below_alloc _ (.cells #[.int .i64 a, .int .i64 b] 2))); (try clear c0 c1); obtain ⟨c0, c1⟩ := HR.out.c2
    refine (elementsCode_any v A c xs _ (some ⟨w.heap.size + 1, 0, none⟩) 2 [a, b] _ HA.out hl HI.out (by simp)).mono ?_; rw [H.out]; rintro e w_ ⟨rfl, hb⟩; replace HA := Lib.hid (HA.out.below hb); replace HW := Lib.hid (HW.out.below hb); replace HR := Lib.hid (HR.out.below hb); clear hb; (try clear c0 c1); obtain ⟨c0, c1⟩ := HR.out.c2
    go_wp2_with fail
    refine (grid_any v A c xs _ HA.out hl HS.out).mono ?_
    rintro e w_ ⟨g, rfl, hle, hGr, hb⟩
    have HGr := Lib.hid hGr; clear hGr hle
    replace HW := Lib.hid (HW.out.below hb); clear hb
    go_wp2_with fail
    refine (product_any g _ a b _ HGr.out (by omega) (by omega)).mono ?_
    rintro e w' ⟨rfl, rfl⟩
    go_wp2
    go_ret2
    refine ⟨?_, HW.out⟩
    rw [HN.out, if_neg (by simp [H.out])]
    refine ret_ii ?_ rfl
    show _ = prodI xs a b
    unfold prodI prodG
    by_cases hab : a = b
    · rw [if_pos hab, if_pos hab]
    · rw [if_neg hab, if_neg hab, HG.out hab]
  · have h1' : (elCode v xs (v - 1) [a, b] != 0) = true := by simpa using h1
    have h1'' : (elCode v xs (v - 1) [a, b] == 0) = false := by simpa using h1
    have H := Lib.hid h1; clear h1
    have HA := Lib.hid hA; clear hA; have HR := Lib.hid (Row.box w 30 (.int .i64 v) (.slice A xs.length c)); have HW := Lib.hid (Since.refl w); go_enter Try.func43, Try.ntmps43; go_wp2_with fail; replace HA := Lib.hid (HA.out.below (below_alloc _ (.cells #[.int .i64 v, .slice A xs.length c] 30))); replace HW := Lib.hid (HW.out.below (below_alloc _ (.cells #[.int .i64 v, .slice A xs.length c] 30)))
    replace HA := Lib.hid (HA.out.below (below_alloc _ (.cells #[.int .i64 a, .int .i64 b] 2))); replace HW := Lib.hid (HW.out.below (below_alloc _ (.cells #[.int .i64 a, .int .i64 b] 2))); replace HR := Lib.hid (HR.out.below (below_alloc _ (.cells #[.int .i64 a, .int .i64 b] 2))); (try clear c0 c1); obtain ⟨c0, c1⟩ := HR.out.c2
    refine (elementsCode_any v A c xs _ (some ⟨w.heap.size + 1, 0, none⟩) 2 [a, b] _ HA.out hl HI.out (by simp)).mono ?_
    first | rw [HEQ.out] | skip
    rintro e w_ ⟨rfl, hb⟩
    replace HW := Lib.hid (HW.out.below hb); clear hb
    go_wp2
    go_ret2
    exact ⟨by rw [HN.out, if_pos H.out]; rfl, HW.out⟩

end Go.Proofs.Ytbiepcafnhhfgaa
