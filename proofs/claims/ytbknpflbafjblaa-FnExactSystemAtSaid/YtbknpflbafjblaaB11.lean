/- Plain laws and contracts, part 11; conditions: stated in each. -/
import Derived.Test.YtbknpflbafjblaaB6
import Derived.Test.YtbknpflbafjblaaB10
set_option linter.unusedSimpArgs false
set_option linter.unusedVariables false
/- Contracts of SystemAt, of the reference and of the program; conditions: stated in each. -/
namespace Go.Proofs.Ytbknpflbafjblaa
open Go.RowKit
set_option maxHeartbeats 2000000
set_option maxRecDepth 100000
set_option linter.unusedSimpArgs false
set_option linter.unusedVariables false

/-- a system of the list and a code -/
def satR (v i : Int) : Int × List Blk × Int := if 0 ≤ i ∧ i < numS v then (v, nthB (addC v.toNat []) i.toNat, 0) else (0, [], 2)
theorem satR_bad {v i : Int} (h : ¬ (0 ≤ i ∧ i < numS v)) : satR v i = (0, [], 2) := by unfold satR; rw [if_neg h]
theorem satR_one (n k : Nat) (h : k < numS n) : satR n k = ((n : Int), nthB (addC n []) k, 0) := by unfold satR; rw [if_pos ⟨by omega, by omega⟩]; rfl
theorem few_of {v i : Int} (h : 0 ≤ i ∧ i < numS v) : ∃ n k : Nat, v = n ∧ i = k ∧ (n = 3 ∨ n = 7 ∨ n = 9) ∧ k < numS n := by
  have h1 : ¬ numS v = 0 := by omega
  rw [numS_zero] at h1
  refine ⟨v.toNat, i.toNat, by omega, by omega, by omega, ?_⟩
  have e : ((v.toNat : Nat) : Int) = v := by omega
  rw [e]; omega
theorem nthB_len {n k : Nat} (h : n = 3 ∨ n = 7 ∨ n = 9) (hk : k < numS n) : (nthB (addC n []) k).length ≤ 12 := by
  have h1 := addC_nil n h
  have h2 : nthB (addC n []) k ∈ addC n [] := by
    unfold nthB
    have h4 : k < (addC n []).length := by omega
    simp [h4]
  rw [add_len (isSys_nil h) (by omega) h2]
  exact misN_nil h
theorem satR_bd (v i : Int) : (satR v i).2.1.length ≤ 12 := by
  by_cases h : 0 ≤ i ∧ i < numS v
  · obtain ⟨n, k, rfl, rfl, ht, hk⟩ := few_of h
    rw [satR_one n k hk]; exact nthB_len ht hk
  · rw [satR_bad h]; simp
theorem implSat_any (v i : Int) (w : World) :
    Calls Try.prog 45 #[.int .i64 v, .int .i64 i] w (LPB w (satR v i).1 (satR v i).2.1 (satR v i).2.2) := by
  have HRR := Lib.hid (Row.new w 30 #[.int .i64 0, .slice none 0 0])
  have HW := Lib.hid (below_alloc w (.cells #[.int .i64 0, .slice none 0 0] 30))
  have HSZ : Hid ((w.alloc (.cells #[.int .i64 0, .slice none 0 0] 30)).heap.size = w.heap.size + 1) := by unfold Hid; rw [World.size_alloc]
  have HB := Lib.hid (@satR_bad v i)
  by_cases ht : v = 3 ∨ v = 7 ∨ v = 9
  · obtain ⟨n, rfl⟩ := Int.eq_ofNat_of_zero_le (by omega : 0 ≤ v)
    have htn : n = 3 ∨ n = 7 ∨ n = 9 := by omega
    have HSO := Lib.hid (fun w => systemsOf_any n w htn (isSys_nil htn) (misN_nil htn))
    have hlen := addC_nil n htn
    have hle := numS_le n
    have HG : Hid (∀ k : Nat, i = k → k < numS n → satR n i = ((n : Int), nthB (addC n []) k, 0)) := fun k h1 h2 => by rw [h1]; exact satR_one n k h2
    have HT := Lib.hid ht
    generalize satR n i = R at *
    generalize addC n [] = L at *
    generalize hnum : numS n = m at *
    clear hnum ht htn
    go_enter Try.func45, Try.ntmps45
    go_wp2_with fail
    refine (isFew_any _ _).mono ?_
    rw [decide_eq_true HT.out]
    rintro e w' ⟨rfl, rfl⟩
    go_wp2_with fail
    refine (HSO.out _).mono ?_
    rintro e w2 ⟨A', c', S, rfl, hC2, hb⟩
    generalize hW0 : w.alloc _ = W0 at *
    clear hW0
    have HC2 := Lib.hid hC2
    have HS2 := Lib.hid hb
    have HBS : Hid (w.heap.size + 1 ≤ W0.heap.size) := Nat.le_of_eq HSZ.out.symm
    clear hb hC2
    obtain ⟨c0, c1⟩ := (HRR.out.below HS2.out).c2
    have f0 := (HRR.out.below HS2.out).frozen 0
    have f1 := (HRR.out.below HS2.out).frozen 1
    have hlt := (HRR.out.below HS2.out).lt
    have HW1 := Lib.hid (HW.out.trans (HS2.out.mono HW.out.size))
    by_cases hk : 0 ≤ i ∧ i < m
    · obtain ⟨k, rfl⟩ := Int.eq_ofNat_of_zero_le hk.1
      have HN := Lib.hid (HG.out k rfl (by omega))
      have hkl : k < L.length := by omega
      obtain ⟨gv, B2, d2, hg2, hgl2, hge2, t0, t1, hob2⟩ := HC2.out.rd hkl
      obtain rfl := hg2
      have HOB := Lib.hid hob2
      clear hob2
      obtain ⟨k0, k1⟩ := (HRR.out.below HS2.out).put2 (.int .i64 n) (.slice B2 (nthB L k).length d2)
      have HOF : Hid (∀ X Y, OB ((w2.setCell ⟨w.heap.size, 0, none⟩ X).setCell ⟨w.heap.size, 1, none⟩ Y) w.heap.size (.slice B2 (nthB L k).length d2) (nthB L k)) := fun X Y => (OB.keep2 (g := w.heap.size) HOB.out (by have := HBS.out; omega) X Y).base (by have := HBS.out; omega)
      go_wp2_with fail
      refine (within_any _ _ _ _).mono ?_
      rw [decide_eq_true (by omega)]
      rintro e w' ⟨rfl, rfl⟩
      go_wp2
      (try simp only [Exit.inBlock, Exit.then])
      refine bodyPost_ret (by simp [results, Try.results45, go_sem, k0, k1]; try rfl) rfl ?_
      exact LPB.mk (HOF.out _ _) (by rw [HN.out]) (by rw [HN.out]) (by rw [HN.out]) ((HW1.out.setCell (Nat.le_refl _) _).setCell (Nat.le_refl _) _)
    · have HN := Lib.hid (HB.out hk)
      obtain ⟨k0, k1⟩ := (HRR.out.below HS2.out).put2 (.int .i64 0) (.slice none 0 0)
      go_wp2_with fail
      refine (within_any _ _ _ _).mono ?_
      rw [decide_eq_false (by omega)]
      rintro e w' ⟨rfl, rfl⟩
      go_wp2
      (try simp only [Exit.inBlock, Exit.then])
      refine bodyPost_ret (by simp [results, Try.results45, go_sem, k0, k1]; try rfl) rfl ?_
      exact LPB.mk (OB.nilv _ _) (by rw [HN.out]) (by rw [HN.out]) (by rw [HN.out]) ((HW1.out.setCell (Nat.le_refl _) _).setCell (Nat.le_refl _) _)
  · have HN := Lib.hid (HB.out (by have := numS_zero.2 ht; omega))
    have HT := Lib.hid ht
    generalize satR v i = R at *
    clear ht HB
    obtain ⟨c0, c1⟩ := HRR.out.c2
    have f0 := HRR.out.frozen 0
    have f1 := HRR.out.frozen 1
    have hlt := HRR.out.lt
    obtain ⟨k0, k1⟩ := HRR.out.put2 (.int .i64 0) (.slice none 0 0)
    go_enter Try.func45, Try.ntmps45
    go_wp2_with fail
    refine (isFew_any _ _).mono ?_
    rw [decide_eq_false HT.out]
    rintro e w' ⟨rfl, rfl⟩
    go_wp2
    (try simp only [Exit.inBlock, Exit.then])
    refine bodyPost_ret (by simp [results, Try.results45, go_sem, k0, k1]; try rfl) rfl ?_
    exact LPB.mk (OB.nilv _ _) (by rw [HN.out]) (by rw [HN.out]) (by rw [HN.out]) HW.out

theorem l10All_any (n : Nat) (w : World) (ht : n = 3 ∨ n = 7 ∨ n = 9) :
    Calls Try.prog 87 #[.int .i64 (n : Int)] w fun e w' => ∃ A' c' S, e = .returned (.slice A' (addC n []).length c') ∧ LSS S w' w.heap.size n (.slice A' (addC n []).length c') (addC n []) ∧ Below w.heap.size w w' := by
  have HALL := Lib.hid (fun w A c hA => l08All_any n A c [] 1000 w hA (isSys_nil ht) (by omega) (by omega) (by omega))
  rw [cplL_nil ht] at HALL
  go_enter Try.func87, Try.ntmps87
  go_wp2_with fail
  have HB := Lib.hid (below_alloc w (.cells #[] 99))
  refine (HALL.out _ (some ⟨w.heap.size, 0, none⟩) 0 (.inl rfl)).mono ?_
  rintro e w2 ⟨A', c', S, rfl, hls, hb⟩
  have HL := Lib.hid (hls.base HB.out.size)
  have HB2 := Lib.hid (below_up HB.out hb)
  clear hls hb
  go_wp2
  go_ret
  exact ⟨A', c', S, rfl, HL.out, HB2.out⟩
theorem specSat_any (v i : Int) (w : World) :
    Calls Try.prog 44 #[.int .i64 v, .int .i64 i] w (LPB w (satR v i).1 (satR v i).2.1 (satR v i).2.2) := by
  have HRR := Lib.hid (Row.new w 30 #[.int .i64 0, .slice none 0 0])
  have HW := Lib.hid (below_alloc w (.cells #[.int .i64 0, .slice none 0 0] 30))
  have HSZ : Hid ((w.alloc (.cells #[.int .i64 0, .slice none 0 0] 30)).heap.size = w.heap.size + 1) := by unfold Hid; rw [World.size_alloc]
  have HB := Lib.hid (@satR_bad v i)
  by_cases hk : 0 ≤ i ∧ i < numS v
  · obtain ⟨n, k, rfl, rfl, htn, hkm⟩ := few_of hk
    have HSO := Lib.hid (fun w => l10All_any n w htn)
    have hlen := addC_nil n htn
    have hle := numS_le n
    have HN := Lib.hid (satR_one n k hkm)
    have HNU := Lib.hid (l10Number_any n)
    clear hk
    generalize satR n k = R at *
    generalize addC n [] = L at *
    generalize hnum : numS n = m at *
    clear hnum htn
    go_enter Try.func44, Try.ntmps44
    go_wp2_with first
      | (go_at_call 85; refine (HNU.out _).mono ?_; rintro e w' ⟨rfl, rfl⟩)
      | (go_at_call 86; refine (l01In_any _ _ _ _).mono ?_; rw [decide_eq_true (by omega)]; rintro e w' ⟨rfl, rfl⟩)
    refine (HSO.out _).mono ?_
    rintro e w2 ⟨A', c', S, rfl, hC2, hb⟩
    generalize hW0 : w.alloc _ = W0 at *
    clear hW0
    have HC2 := Lib.hid hC2
    have HS2 := Lib.hid hb
    have HBS : Hid (w.heap.size + 1 ≤ W0.heap.size) := Nat.le_of_eq HSZ.out.symm
    clear hb hC2
    obtain ⟨c0, c1⟩ := (HRR.out.below HS2.out).c2
    have f0 := (HRR.out.below HS2.out).frozen 0
    have f1 := (HRR.out.below HS2.out).frozen 1
    have hlt := (HRR.out.below HS2.out).lt
    have HW1 := Lib.hid (HW.out.trans (HS2.out.mono HW.out.size))
    have hkl : k < L.length := by omega
    obtain ⟨gv, B2, d2, hg2, hgl2, hge2, t0, t1, hob2⟩ := HC2.out.rd hkl
    obtain rfl := hg2
    have HOB := Lib.hid hob2
    clear hob2
    obtain ⟨k0, k1⟩ := (HRR.out.below HS2.out).put2 (.int .i64 n) (.slice B2 (nthB L k).length d2)
    have HOF : Hid (∀ X Y, OB ((w2.setCell ⟨w.heap.size, 0, none⟩ X).setCell ⟨w.heap.size, 1, none⟩ Y) w.heap.size (.slice B2 (nthB L k).length d2) (nthB L k)) := fun X Y => (OB.keep2 (g := w.heap.size) HOB.out (by have := HBS.out; omega) X Y).base (by have := HBS.out; omega)
    go_wp2
    (try simp only [Exit.inBlock, Exit.then])
    refine bodyPost_ret (by simp [results, Try.results44, go_sem, k0, k1]; try rfl) rfl ?_
    exact LPB.mk (HOF.out _ _) (by rw [HN.out]) (by rw [HN.out]) (by rw [HN.out]) ((HW1.out.setCell (Nat.le_refl _) _).setCell (Nat.le_refl _) _)
  · have HN := Lib.hid (HB.out hk)
    have HK := Lib.hid hk
    have HNU := Lib.hid (l10Number_any v)
    have hle := numS_le v
    generalize satR v i = R at *
    generalize numS v = m at *
    clear hk HB
    obtain ⟨c0, c1⟩ := HRR.out.c2
    have f0 := HRR.out.frozen 0
    have f1 := HRR.out.frozen 1
    have hlt := HRR.out.lt
    obtain ⟨k0, k1⟩ := HRR.out.put2 (.int .i64 0) (.slice none 0 0)
    go_enter Try.func44, Try.ntmps44
    go_wp2_with first
      | (go_at_call 85; refine (HNU.out _).mono ?_; rintro e w' ⟨rfl, rfl⟩)
      | (go_at_call 86; refine (l01In_any _ _ _ _).mono ?_; rw [decide_eq_false (by have := HK.out; omega)]; rintro e w' ⟨rfl, rfl⟩)
    all_goals
      (try simp only [Exit.inBlock, Exit.then])
      refine bodyPost_ret (by simp [results, Try.results44, go_sem, k0, k1]; try rfl) rfl ?_
      exact LPB.mk (OB.nilv _ _) (by rw [HN.out]) (by rw [HN.out]) (by rw [HN.out]) HW.out

end Go.Proofs.Ytbknpflbafjblaa
