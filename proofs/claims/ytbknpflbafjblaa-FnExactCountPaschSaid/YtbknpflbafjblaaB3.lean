/- Plain laws and contracts, part 3; conditions: stated in each. -/
import Derived.Deep.RegionWith
import Derived.ProofKit
import Derived.Deep.Slices
import Derived.Lib.SmallJoins
import Derived.Test.YtbknpflbafjblaaB1
import Derived.Test.YtbknpflbafjblaaB2
set_option linter.unusedSimpArgs false
set_option linter.unusedVariables false
/- Contracts of FirstColouring, FirstStrict and ColourNumber, of the reference and of the program; conditions: stated in each. -/
namespace Go.Proofs.Ytbknpflbafjblaa
open Go.RowKit
set_option maxHeartbeats 1000000
set_option maxRecDepth 100000
set_option linter.unusedSimpArgs false
set_option linter.unusedVariables false

noncomputable def firC (st : Bool) (v : Int) (xs : List Blk) (k : Int) : List Int × Int :=
  if isSysB v xs = true then (if 1 ≤ k ∧ k ≤ 6 then (match colF xs k.toNat st v.toNat [] with | some M => (M, 0) | none => ([], 4)) else ([], 2)) else ([], 1)
/-- the first number from k on, of f tries, that is such -/
def numK (p : Nat → Bool) : Nat → Nat → Nat
  | 0, k => k
  | f + 1, k => if p k = true then k else numK p f (k + 1)
noncomputable def clnR (v : Int) (xs : List Blk) : Int × Int :=
  if isSysB v xs = true then (((numK (fun k => (colF xs k false v.toNat []).isSome) 5 1 : Nat) : Int), 0) else (0, 1)
theorem firC_bd (st : Bool) (v : Int) (xs : List Blk) (k : Int) : (firC st v xs k).1.length ≤ 15 := by
  unfold firC
  split
  · rename_i h
    have hv := (isSysB_iff.1 h).1
    split
    · split
      · rename_i M hM
        have := col_len _ _ _ hM
        show M.length ≤ 15
        rw [this]; simp; omega
      · simp
    · simp
  · simp
theorem good15 {v : Int} {xs : List Blk} (hs : isSys v xs) : ∀ i, i < xs.length → goodB 15 (nth xs i) = true := fun i hi => good_mono (hs.2.2.1 i hi).1 hs.1.2

theorem l07Code_any (v : Int) (A : Option Addr) (c : Nat) (xs : List Blk) (k : Int) (w : World) (hA : Bl w A xs) (hl : xs.length ≤ 1048576) :
    Calls Try.prog 83 #[.agg #[.int .i64 v, .slice A xs.length c], .int .i64 k] w fun e w' => e = .returned (.int .i64 (if isSysB v xs = true then (if 1 ≤ k ∧ k ≤ 6 then 0 else 2) else 1)) ∧ Below w.heap.size w w' := by
  cases hs : isSysB v xs
  · have HA := Lib.hid hA; clear hA; have HR := Lib.hid (Row.box w 30 (.int .i64 v) (.slice A xs.length c)); have HW := Lib.hid (Since.refl w); go_enter Try.func83, Try.ntmps83; go_wp2_with fail; replace HA := Lib.hid (HA.out.below (below_alloc _ (.cells #[.int .i64 v, .slice A xs.length c] 30))); replace HW := Lib.hid (HW.out.below (below_alloc _ (.cells #[.int .i64 v, .slice A xs.length c] 30)))
    refine (l01Is_any v A c xs _ HA.out hl).mono ?_; rw [hs]; rintro e w_ ⟨rfl, hb⟩; replace HW := Lib.hid (HW.out.below hb); clear hb
    go_wp2
    go_ret
    exact ⟨rfl, HW.out⟩
  · by_cases hk : 1 ≤ k ∧ k ≤ 6
    · have HD := Lib.hid (decide_eq_true hk)
      rw [if_pos hk]
      clear hk
      have HA := Lib.hid hA; clear hA; have HR := Lib.hid (Row.box w 30 (.int .i64 v) (.slice A xs.length c)); have HW := Lib.hid (Since.refl w); go_enter Try.func83, Try.ntmps83; go_wp2_with fail; replace HA := Lib.hid (HA.out.below (below_alloc _ (.cells #[.int .i64 v, .slice A xs.length c] 30))); replace HW := Lib.hid (HW.out.below (below_alloc _ (.cells #[.int .i64 v, .slice A xs.length c] 30)))
      refine (l01Is_any v A c xs _ HA.out hl).mono ?_; rw [hs]; rintro e w_ ⟨rfl, hb⟩; replace HW := Lib.hid (HW.out.below hb); clear hb
      go_wp2_with fail
      refine (l01In_any _ _ _ _).mono ?_
      rw [HD.out]
      rintro e w' ⟨rfl, rfl⟩
      go_wp2
      go_ret
      exact ⟨rfl, HW.out⟩
    · have HD := Lib.hid (decide_eq_false hk)
      rw [if_neg hk]
      clear hk
      have HA := Lib.hid hA; clear hA; have HR := Lib.hid (Row.box w 30 (.int .i64 v) (.slice A xs.length c)); have HW := Lib.hid (Since.refl w); go_enter Try.func83, Try.ntmps83; go_wp2_with fail; replace HA := Lib.hid (HA.out.below (below_alloc _ (.cells #[.int .i64 v, .slice A xs.length c] 30))); replace HW := Lib.hid (HW.out.below (below_alloc _ (.cells #[.int .i64 v, .slice A xs.length c] 30)))
      refine (l01Is_any v A c xs _ HA.out hl).mono ?_; rw [hs]; rintro e w_ ⟨rfl, hb⟩; replace HW := Lib.hid (HW.out.below hb); clear hb
      go_wp2_with fail
      refine (l01In_any _ _ _ _).mono ?_
      rw [HD.out]
      rintro e w' ⟨rfl, rfl⟩
      go_wp2
      go_ret
      exact ⟨rfl, HW.out⟩

theorem implFirX_any (st : Bool) (v : Int) (A : Option Addr) (c : Nat) (xs : List Blk) (k : Int) (w : World) (hA : Bl w A xs) (hl : xs.length ≤ 1048576) :
    Calls Try.prog 84 #[.agg #[.int .i64 v, .slice A xs.length c], .int .i64 k, .bool st] w (LP w (firC st v xs k).1 (firC st v xs k).2) := by
  cases hs : isSysB v xs
  · have HN : Hid (firC st v xs k = ([], 1)) := by unfold Hid firC; simp [hs]
    generalize firC st v xs k = R at *
    have HA := Lib.hid hA; clear hA; have HR := Lib.hid (Row.box w 30 (.int .i64 v) (.slice A xs.length c)); have HW := Lib.hid (Since.refl w); go_enter Try.func84, Try.ntmps84; go_wp2_with fail; replace HA := Lib.hid (HA.out.below (below_alloc _ (.cells #[.int .i64 v, .slice A xs.length c] 30))); replace HW := Lib.hid (HW.out.below (below_alloc _ (.cells #[.int .i64 v, .slice A xs.length c] 30)))
    refine (IsSystem_any v A c xs _ HA.out hl).mono ?_; rw [hs]; rintro e w_ ⟨rfl, hb⟩; replace HW := Lib.hid (HW.out.below hb); clear hb
    go_wp2
    go_ret2
    exact LP.nil (by rw [HN.out]) (by rw [HN.out]) HW.out
  · by_cases hk : 1 ≤ k ∧ k ≤ 6
    · have HN : Hid (firC st v xs k = match colF xs k.toNat st v.toNat [] with | some M => (M, 0) | none => ([], 4)) := by unfold Hid firC; rw [if_pos hs, if_pos hk]
      have HS := Lib.hid (isSysB_iff.1 hs)
      have HD := Lib.hid (decide_eq_true hk)
      generalize firC st v xs k = R at *
      have hv := HS.out.1
      obtain ⟨n, rfl⟩ := Int.eq_ofNat_of_zero_le (by omega : 0 ≤ v)
      obtain ⟨K, rfl⟩ := Int.eq_ofNat_of_zero_le (by omega : 0 ≤ k)
      simp only [Int.toNat_natCast] at HN
      have hK6 : K ≤ 6 := by omega
      clear hk
      have HA := Lib.hid hA; clear hA; have HR := Lib.hid (Row.box w 30 (.int .i64 n) (.slice A xs.length c)); have HW := Lib.hid (Since.refl w); go_enter Try.func84, Try.ntmps84; go_wp2_with fail; replace HA := Lib.hid (HA.out.below (below_alloc _ (.cells #[.int .i64 n, .slice A xs.length c] 30))); replace HW := Lib.hid (HW.out.below (below_alloc _ (.cells #[.int .i64 n, .slice A xs.length c] 30)))
      refine (IsSystem_any n A c xs _ HA.out hl).mono ?_; rw [hs]; rintro e w_ ⟨rfl, hb⟩; replace HA := Lib.hid (HA.out.below hb); replace HW := Lib.hid (HW.out.below hb); replace HR := Lib.hid (HR.out.below hb); clear hb; (try clear c0 c1); obtain ⟨c0, c1⟩ := HR.out.c2
      have hlr := HR.out.lt
      go_wp2_with fail
      refine (within_any _ _ _ _).mono ?_
      rw [HD.out]
      rintro e w' ⟨rfl, rfl⟩
      go_wp2_with fail
      refine (colour_any n A c xs HS.out K hK6 _ n w.heap.size [] (.slice none 0 0) _ (by simp) HW.out.size HA.out (World.ownsRow_nil _ _ _ _) (fun j hj => by simp at hj)).mono ?_
      rintro e w5 ⟨hb, (⟨M, r5, hM, rfl, hr5⟩ | ⟨hM, rfl⟩)⟩
      · have HN2 : Hid (R = (M, 0)) := by unfold Hid; rw [HN.out, hM]
        have HR5 := Lib.hid hr5
        have HW5 := Lib.hid (HW.out.below hb)
        clear hM hr5 hb
        go_wp2
        go_ret2
        exact LP.mk HR5.out (by rw [HN2.out]) (by rw [HN2.out]) HW5.out
      · have HN2 : Hid (R = ([], 4)) := by unfold Hid; rw [HN.out, hM]
        have HW5 := Lib.hid (HW.out.below hb)
        clear hM hb
        go_wp2
        go_ret2
        exact LP.nil (by rw [HN2.out]) (by rw [HN2.out]) HW5.out
    · have HN : Hid (firC st v xs k = ([], 2)) := by unfold Hid firC; rw [if_pos hs, if_neg hk]
      have HD := Lib.hid (decide_eq_false hk)
      generalize firC st v xs k = R at *
      clear hk
      have HA := Lib.hid hA; clear hA; have HR := Lib.hid (Row.box w 30 (.int .i64 v) (.slice A xs.length c)); have HW := Lib.hid (Since.refl w); go_enter Try.func84, Try.ntmps84; go_wp2_with fail; replace HA := Lib.hid (HA.out.below (below_alloc _ (.cells #[.int .i64 v, .slice A xs.length c] 30))); replace HW := Lib.hid (HW.out.below (below_alloc _ (.cells #[.int .i64 v, .slice A xs.length c] 30)))
      refine (IsSystem_any v A c xs _ HA.out hl).mono ?_; rw [hs]; rintro e w_ ⟨rfl, hb⟩; replace HW := Lib.hid (HW.out.below hb); clear hb
      go_wp2_with fail
      refine (within_any _ _ _ _).mono ?_
      rw [HD.out]
      rintro e w' ⟨rfl, rfl⟩
      go_wp2
      go_ret2
      exact LP.nil (by rw [HN.out]) (by rw [HN.out]) HW.out

theorem implFir_any (v : Int) (A : Option Addr) (c : Nat) (xs : List Blk) (k : Int) (w : World) (hA : Bl w A xs) (hl : xs.length ≤ 1048576) :
    Calls Try.prog 41 #[.agg #[.int .i64 v, .slice A xs.length c], .int .i64 k] w (LP w (firC false v xs k).1 (firC false v xs k).2) := by
  have HA := Lib.hid hA; clear hA; have HR := Lib.hid (Row.box w 30 (.int .i64 v) (.slice A xs.length c)); have HW := Lib.hid (Since.refl w); go_enter Try.func41, Try.ntmps41; go_wp2_with fail; replace HA := Lib.hid (HA.out.below (below_alloc _ (.cells #[.int .i64 v, .slice A xs.length c] 30))); replace HW := Lib.hid (HW.out.below (below_alloc _ (.cells #[.int .i64 v, .slice A xs.length c] 30)))
  refine (implFirX_any false v A c xs k _ HA.out hl).mono ?_
  rintro e w5 ⟨B, d, rfl, ho, hb⟩
  have HO := Lib.hid (own_base ho HW.out.size)
  have HW5 := Lib.hid (HW.out.below hb)
  clear ho hb
  go_wp2
  go_ret2
  exact ⟨B, d, rfl, HO.out, HW5.out⟩
theorem implFis_any (v : Int) (A : Option Addr) (c : Nat) (xs : List Blk) (k : Int) (w : World) (hA : Bl w A xs) (hl : xs.length ≤ 1048576) :
    Calls Try.prog 43 #[.agg #[.int .i64 v, .slice A xs.length c], .int .i64 k] w (LP w (firC true v xs k).1 (firC true v xs k).2) := by
  have HA := Lib.hid hA; clear hA; have HR := Lib.hid (Row.box w 30 (.int .i64 v) (.slice A xs.length c)); have HW := Lib.hid (Since.refl w); go_enter Try.func43, Try.ntmps43; go_wp2_with fail; replace HA := Lib.hid (HA.out.below (below_alloc _ (.cells #[.int .i64 v, .slice A xs.length c] 30))); replace HW := Lib.hid (HW.out.below (below_alloc _ (.cells #[.int .i64 v, .slice A xs.length c] 30)))
  refine (implFirX_any true v A c xs k _ HA.out hl).mono ?_
  rintro e w5 ⟨B, d, rfl, ho, hb⟩
  have HO := Lib.hid (own_base ho HW.out.size)
  have HW5 := Lib.hid (HW.out.below hb)
  clear ho hb
  go_wp2
  go_ret2
  exact ⟨B, d, rfl, HO.out, HW5.out⟩

theorem specFir_any (v : Int) (A : Option Addr) (c : Nat) (xs : List Blk) (k : Int) (w : World) (hA : Bl w A xs) (hl : xs.length ≤ 1048576) :
    Calls Try.prog 40 #[.agg #[.int .i64 v, .slice A xs.length c], .int .i64 k] w (LP w (firC false v xs k).1 (firC false v xs k).2) := by
  by_cases hs : isSysB v xs = true ∧ (1 ≤ k ∧ k ≤ 6)
  · have HN : Hid (firC false v xs k = match colF xs k.toNat false v.toNat [] with | some M => (M, 0) | none => ([], 4)) := by unfold Hid firC; rw [if_pos hs.1, if_pos hs.2]
    have HS := Lib.hid (isSysB_iff.1 hs.1)
    have HCD : Hid ((if isSysB v xs = true then (if 1 ≤ k ∧ k ≤ 6 then (0 : Int) else 2) else 1) = 0) := by unfold Hid; rw [if_pos hs.1, if_pos hs.2]
    rw [col_can (good15 HS.out)] at HN
    generalize firC false v xs k = R at *
    have hv := HS.out.1
    obtain ⟨n, rfl⟩ := Int.eq_ofNat_of_zero_le (by omega : 0 ≤ v)
    obtain ⟨K, rfl⟩ := Int.eq_ofNat_of_zero_le (by omega : 0 ≤ k)
    simp only [Int.toNat_natCast] at HN
    have hK6 : K ≤ 6 := by omega
    clear hs
    have HA := Lib.hid hA; clear hA; have HR := Lib.hid (Row.box w 30 (.int .i64 n) (.slice A xs.length c)); have HW := Lib.hid (Since.refl w); go_enter Try.func40, Try.ntmps40; go_wp2_with fail; replace HA := Lib.hid (HA.out.below (below_alloc _ (.cells #[.int .i64 n, .slice A xs.length c] 30))); replace HW := Lib.hid (HW.out.below (below_alloc _ (.cells #[.int .i64 n, .slice A xs.length c] 30)))
    refine (l07Code_any n A c xs K _ HA.out hl).mono ?_; rw [HCD.out]; rintro e w_ ⟨rfl, hb⟩; replace HA := Lib.hid (HA.out.below hb); replace HW := Lib.hid (HW.out.below hb); replace HR := Lib.hid (HR.out.below hb); clear hb; (try clear c0 c1); obtain ⟨c0, c1⟩ := HR.out.c2
    have hlr := HR.out.lt
    go_wp2_with fail
    have HE0 : Hid (Ro (w_.alloc (.cells #[] 2)) w.heap.size (.slice (some ⟨w_.heap.size, 0, none⟩) 0 0) []) := own_base (own_empty w_ 2 1) HW.out.size
    have HB0 := Lib.hid (below_alloc w_ (.cells #[] 2))
    refine (l07Find_any n A c xs HS.out K hK6 _ n w.heap.size [] _ 0 _ _ rfl (by simp) (by omega) (Nat.le_trans HW.out.size HB0.out.size) (HA.out.below HB0.out) HE0.out).mono ?_
    rintro e w5 ⟨hb, (⟨M, r5, hM, rfl, hr5⟩ | ⟨hM, rfl⟩)⟩
    · have HN2 : Hid (R = (M, 0)) := by unfold Hid; rw [HN.out, hM]
      have HR5 := Lib.hid hr5
      have HW5 := Lib.hid (HW.out.below (below_up HB0.out hb))
      clear hM hr5 hb
      go_wp2
      go_ret2
      exact LP.mk HR5.out (by rw [HN2.out]) (by rw [HN2.out]) HW5.out
    · have HN2 : Hid (R = ([], 4)) := by unfold Hid; rw [HN.out, hM]
      have HW5 := Lib.hid (HW.out.below (below_up HB0.out hb))
      clear hM hb
      go_wp2
      go_ret2
      exact LP.nil (by rw [HN2.out]) (by rw [HN2.out]) HW5.out
  · obtain ⟨K, hK, hne, HN⟩ : ∃ K : Int, (if isSysB v xs = true then (if 1 ≤ k ∧ k ≤ 6 then (0 : Int) else 2) else 1) = K ∧ (K != 0) = true ∧ Hid (firC false v xs k = ([], K)) := by
      by_cases h1 : isSysB v xs = true
      · have h2 : ¬ (1 ≤ k ∧ k ≤ 6) := fun h => hs ⟨h1, h⟩
        exact ⟨2, by rw [if_pos h1, if_neg h2], rfl, by unfold Hid firC; rw [if_pos h1, if_neg h2]⟩
      · exact ⟨1, by rw [if_neg h1], rfl, by unfold Hid firC; rw [if_neg h1]⟩
    generalize firC false v xs k = R at *
    clear hs
    have HA := Lib.hid hA; clear hA; have HR := Lib.hid (Row.box w 30 (.int .i64 v) (.slice A xs.length c)); have HW := Lib.hid (Since.refl w); go_enter Try.func40, Try.ntmps40; go_wp2_with fail; replace HA := Lib.hid (HA.out.below (below_alloc _ (.cells #[.int .i64 v, .slice A xs.length c] 30))); replace HW := Lib.hid (HW.out.below (below_alloc _ (.cells #[.int .i64 v, .slice A xs.length c] 30)))
    refine (l07Code_any v A c xs k _ HA.out hl).mono ?_; rw [hK]; rintro e w_ ⟨rfl, hb⟩; replace HW := Lib.hid (HW.out.below hb); clear hb
    go_wp2
    go_ret2
    exact LP.nil (by rw [HN.out]) (by rw [HN.out]) HW.out
theorem specFis_any (v : Int) (A : Option Addr) (c : Nat) (xs : List Blk) (k : Int) (w : World) (hA : Bl w A xs) (hl : xs.length ≤ 1048576) :
    Calls Try.prog 42 #[.agg #[.int .i64 v, .slice A xs.length c], .int .i64 k] w (LP w (firC true v xs k).1 (firC true v xs k).2) := by
  by_cases hs : isSysB v xs = true ∧ (1 ≤ k ∧ k ≤ 6)
  · have HN : Hid (firC true v xs k = match colF xs k.toNat true v.toNat [] with | some M => (M, 0) | none => ([], 4)) := by unfold Hid firC; rw [if_pos hs.1, if_pos hs.2]
    have HS := Lib.hid (isSysB_iff.1 hs.1)
    have HCD : Hid ((if isSysB v xs = true then (if 1 ≤ k ∧ k ≤ 6 then (0 : Int) else 2) else 1) = 0) := by unfold Hid; rw [if_pos hs.1, if_pos hs.2]
    rw [col_can (good15 HS.out)] at HN
    generalize firC true v xs k = R at *
    have hv := HS.out.1
    obtain ⟨n, rfl⟩ := Int.eq_ofNat_of_zero_le (by omega : 0 ≤ v)
    obtain ⟨K, rfl⟩ := Int.eq_ofNat_of_zero_le (by omega : 0 ≤ k)
    simp only [Int.toNat_natCast] at HN
    have hK6 : K ≤ 6 := by omega
    clear hs
    have HA := Lib.hid hA; clear hA; have HR := Lib.hid (Row.box w 30 (.int .i64 n) (.slice A xs.length c)); have HW := Lib.hid (Since.refl w); go_enter Try.func42, Try.ntmps42; go_wp2_with fail; replace HA := Lib.hid (HA.out.below (below_alloc _ (.cells #[.int .i64 n, .slice A xs.length c] 30))); replace HW := Lib.hid (HW.out.below (below_alloc _ (.cells #[.int .i64 n, .slice A xs.length c] 30)))
    refine (l07Code_any n A c xs K _ HA.out hl).mono ?_; rw [HCD.out]; rintro e w_ ⟨rfl, hb⟩; replace HA := Lib.hid (HA.out.below hb); replace HW := Lib.hid (HW.out.below hb); replace HR := Lib.hid (HR.out.below hb); clear hb; (try clear c0 c1); obtain ⟨c0, c1⟩ := HR.out.c2
    have hlr := HR.out.lt
    go_wp2_with fail
    have HE0 : Hid (Ro (w_.alloc (.cells #[] 2)) w.heap.size (.slice (some ⟨w_.heap.size, 0, none⟩) 0 0) []) := own_base (own_empty w_ 2 1) HW.out.size
    have HB0 := Lib.hid (below_alloc w_ (.cells #[] 2))
    refine (l07Find_any n A c xs HS.out K hK6 _ n w.heap.size [] _ 0 _ _ rfl (by simp) (by omega) (Nat.le_trans HW.out.size HB0.out.size) (HA.out.below HB0.out) HE0.out).mono ?_
    rintro e w5 ⟨hb, (⟨M, r5, hM, rfl, hr5⟩ | ⟨hM, rfl⟩)⟩
    · have HN2 : Hid (R = (M, 0)) := by unfold Hid; rw [HN.out, hM]
      have HR5 := Lib.hid hr5
      have HW5 := Lib.hid (HW.out.below (below_up HB0.out hb))
      clear hM hr5 hb
      go_wp2
      go_ret2
      exact LP.mk HR5.out (by rw [HN2.out]) (by rw [HN2.out]) HW5.out
    · have HN2 : Hid (R = ([], 4)) := by unfold Hid; rw [HN.out, hM]
      have HW5 := Lib.hid (HW.out.below (below_up HB0.out hb))
      clear hM hb
      go_wp2
      go_ret2
      exact LP.nil (by rw [HN2.out]) (by rw [HN2.out]) HW5.out
  · obtain ⟨K, hK, hne, HN⟩ : ∃ K : Int, (if isSysB v xs = true then (if 1 ≤ k ∧ k ≤ 6 then (0 : Int) else 2) else 1) = K ∧ (K != 0) = true ∧ Hid (firC true v xs k = ([], K)) := by
      by_cases h1 : isSysB v xs = true
      · have h2 : ¬ (1 ≤ k ∧ k ≤ 6) := fun h => hs ⟨h1, h⟩
        exact ⟨2, by rw [if_pos h1, if_neg h2], rfl, by unfold Hid firC; rw [if_pos h1, if_neg h2]⟩
      · exact ⟨1, by rw [if_neg h1], rfl, by unfold Hid firC; rw [if_neg h1]⟩
    generalize firC true v xs k = R at *
    clear hs
    have HA := Lib.hid hA; clear hA; have HR := Lib.hid (Row.box w 30 (.int .i64 v) (.slice A xs.length c)); have HW := Lib.hid (Since.refl w); go_enter Try.func42, Try.ntmps42; go_wp2_with fail; replace HA := Lib.hid (HA.out.below (below_alloc _ (.cells #[.int .i64 v, .slice A xs.length c] 30))); replace HW := Lib.hid (HW.out.below (below_alloc _ (.cells #[.int .i64 v, .slice A xs.length c] 30)))
    refine (l07Code_any v A c xs k _ HA.out hl).mono ?_; rw [hK]; rintro e w_ ⟨rfl, hb⟩; replace HW := Lib.hid (HW.out.below hb); clear hb
    go_wp2
    go_ret2
    exact LP.nil (by rw [HN.out]) (by rw [HN.out]) HW.out

theorem implCln_any (v : Int) (A : Option Addr) (c : Nat) (xs : List Blk) (w : World) (hA : Bl w A xs) (hl : xs.length ≤ 1048576) :
    Calls Try.prog 35 #[.agg #[.int .i64 v, .slice A xs.length c]] w fun e w' => e = .returned (.tuple #[.int .i64 (clnR v xs).1, .int .i64 (clnR v xs).2]) ∧ Below w.heap.size w w' := by
  cases hs : isSysB v xs
  · have HN : Hid (clnR v xs = (0, 1)) := by unfold Hid clnR; simp [hs]
    generalize clnR v xs = R at *
    have HA := Lib.hid hA; clear hA; have HR := Lib.hid (Row.box w 30 (.int .i64 v) (.slice A xs.length c)); have HW := Lib.hid (Since.refl w); go_enter Try.func35, Try.ntmps35; go_wp2_with fail; replace HA := Lib.hid (HA.out.below (below_alloc _ (.cells #[.int .i64 v, .slice A xs.length c] 30))); replace HW := Lib.hid (HW.out.below (below_alloc _ (.cells #[.int .i64 v, .slice A xs.length c] 30)))
    refine (IsSystem_any v A c xs _ HA.out hl).mono ?_; rw [hs]; rintro e w_ ⟨rfl, hb⟩; replace HW := Lib.hid (HW.out.below hb); clear hb
    go_wp2
    go_ret2
    exact ⟨by rw [HN.out]; rfl, HW.out⟩
  · have HS := Lib.hid (isSysB_iff.1 hs)
    have hv := HS.out.1
    obtain ⟨n, rfl⟩ := Int.eq_ofNat_of_zero_le (by omega : 0 ≤ v)
    obtain ⟨p, hp⟩ : ∃ p : Nat → Bool, p = fun k => (colF xs k false n []).isSome := ⟨_, rfl⟩
    have HP := Lib.hid hp
    have HN : Hid (clnR n xs = (((numK p 5 1 : Nat) : Int), 0)) := by unfold Hid clnR; rw [if_pos hs, hp]; rfl
    have HK : Hid (∀ f k, numK p (f + 1) k = if p k = true then k else numK p f (k + 1)) := fun f k => rfl
    have HK0 : Hid (∀ k, numK p 0 k = k) := fun k => rfl
    generalize clnR n xs = R at *
    generalize hF : numK p = F at *
    clear hp hF
    have HA := Lib.hid hA; clear hA; have HR := Lib.hid (Row.box w 30 (.int .i64 n) (.slice A xs.length c)); have HW := Lib.hid (Since.refl w); go_enter Try.func35, Try.ntmps35; go_wp2_with fail; replace HA := Lib.hid (HA.out.below (below_alloc _ (.cells #[.int .i64 n, .slice A xs.length c] 30))); replace HW := Lib.hid (HW.out.below (below_alloc _ (.cells #[.int .i64 n, .slice A xs.length c] 30)))
    refine (IsSystem_any n A c xs _ HA.out hl).mono ?_; rw [hs]; rintro e w_ ⟨rfl, hb⟩; replace HA := Lib.hid (HA.out.below hb); replace HW := Lib.hid (HW.out.below hb); replace HR := Lib.hid (HR.out.below hb); clear hb; (try clear c0 c1); obtain ⟨c0, c1⟩ := HR.out.c2
    go_wp2
    clear c0 c1
    go_loopw [4] (fun i wr => ∃ k : Nat, 1 ≤ k ∧ k ≤ 6 ∧ i = .int .i64 k ∧ Hid (Below w_.heap.size w_ wr ∧ F (6 - k) k = F 5 1)) (fun i _ => 6 - (intOf i).toNat)
    case atStart => exact ⟨1, by omega, by omega, rfl, Below.refl _ _, rfl⟩
    case round =>
      obtain ⟨k, hk1, hk6, rfl, HC⟩ := hrel
      obtain ⟨c0, c1⟩ := (HR.out.below HC.out.1).c2
      have hsz := (HR.out.below HC.out.1).lt
      by_cases hlt : k < 6
      · have HST : Hid (F (6 - k) k = if p k = true then k else F (6 - (k + 1)) (k + 1)) := by
          have := HK.out (6 - (k + 1)) k
          have e : 6 - (k + 1) + 1 = 6 - k := by omega
          rwa [e] at this
        go_wp2_with fail
        refine (colour_any n A c xs HS.out k hk6 _ n wr.heap.size [] (.slice none 0 0) _ (by simp) (Nat.le_refl _) (HA.out.below HC.out.1) (World.ownsRow_nil _ _ _ _) (fun j hj => by simp at hj)).mono ?_
        rintro e w5 ⟨hb, (⟨M, r5, hM, rfl, hr5⟩ | ⟨hM, rfl⟩)⟩
        · have HE : Hid (F 5 1 = k) := by
            unfold Hid
            rw [← HC.out.2, HST.out, if_pos]
            rw [HP.out]; simp [hM]
          have HW5 := Lib.hid (HW.out.below (below_up HC.out.1 hb))
          clear hM hr5 hb c0 c1
          go_wp2
          go_ret2
          exact ⟨by rw [HN.out]; exact ret_ii (by rw [HE.out]) rfl, HW5.out⟩
        · have HE : Hid (F (6 - (k + 1)) (k + 1) = F 5 1) := by
            unfold Hid
            rw [← HC.out.2, HST.out, if_neg]
            rw [HP.out]; simp [hM]
          have HB5 := Lib.hid (below_up HC.out.1 hb)
          clear hM hb c0 c1
          go_wp2
          go_roundw
          case rel => exact ⟨k + 1, by omega, by omega, by go_num, HB5.out, HE.out⟩
          case measure => simp [intOf]; omega
      · obtain rfl : k = 6 := by omega
        go_wp2
        go_ret2
        exact ⟨by rw [HN.out]; exact ret_ii (by rw [← HC.out.2, HK0.out]) rfl, HW.out.below HC.out.1⟩

theorem specCln_any (v : Int) (A : Option Addr) (c : Nat) (xs : List Blk) (w : World) (hA : Bl w A xs) (hl : xs.length ≤ 1048576) :
    Calls Try.prog 34 #[.agg #[.int .i64 v, .slice A xs.length c]] w fun e w' => e = .returned (.tuple #[.int .i64 (clnR v xs).1, .int .i64 (clnR v xs).2]) ∧ Below w.heap.size w w' := by
  cases hs : isSysB v xs
  · have HN : Hid (clnR v xs = (0, 1)) := by unfold Hid clnR; simp [hs]
    generalize clnR v xs = R at *
    have HA := Lib.hid hA; clear hA; have HR := Lib.hid (Row.box w 30 (.int .i64 v) (.slice A xs.length c)); have HW := Lib.hid (Since.refl w); go_enter Try.func34, Try.ntmps34; go_wp2_with fail; replace HA := Lib.hid (HA.out.below (below_alloc _ (.cells #[.int .i64 v, .slice A xs.length c] 30))); replace HW := Lib.hid (HW.out.below (below_alloc _ (.cells #[.int .i64 v, .slice A xs.length c] 30)))
    refine (l01Is_any v A c xs _ HA.out hl).mono ?_; rw [hs]; rintro e w_ ⟨rfl, hb⟩; replace HW := Lib.hid (HW.out.below hb); clear hb
    go_wp2
    go_ret2
    exact ⟨by rw [HN.out]; rfl, HW.out⟩
  · have HS := Lib.hid (isSysB_iff.1 hs)
    have hv := HS.out.1
    obtain ⟨n, rfl⟩ := Int.eq_ofNat_of_zero_le (by omega : 0 ≤ v)
    obtain ⟨p, hp⟩ : ∃ p : Nat → Bool, p = fun k => (colF xs k false n []).isSome := ⟨_, rfl⟩
    have HP : Hid (∀ k, p k = (canF xs k false n [] 0).isSome) := by intro k; rw [hp, ← col_can (good15 HS.out)]
    have HN : Hid (clnR n xs = (((numK p 5 1 : Nat) : Int), 0)) := by unfold Hid clnR; rw [if_pos hs, hp]; rfl
    have HK : Hid (∀ f k, numK p (f + 1) k = if p k = true then k else numK p f (k + 1)) := fun f k => rfl
    have HK0 : Hid (∀ k, numK p 0 k = k) := fun k => rfl
    generalize clnR n xs = R at *
    generalize hF : numK p = F at *
    clear hp hF
    have HA := Lib.hid hA; clear hA; have HR := Lib.hid (Row.box w 30 (.int .i64 n) (.slice A xs.length c)); have HW := Lib.hid (Since.refl w); go_enter Try.func34, Try.ntmps34; go_wp2_with fail; replace HA := Lib.hid (HA.out.below (below_alloc _ (.cells #[.int .i64 n, .slice A xs.length c] 30))); replace HW := Lib.hid (HW.out.below (below_alloc _ (.cells #[.int .i64 n, .slice A xs.length c] 30)))
    refine (l01Is_any n A c xs _ HA.out hl).mono ?_; rw [hs]; rintro e w_ ⟨rfl, hb⟩; replace HA := Lib.hid (HA.out.below hb); replace HW := Lib.hid (HW.out.below hb); replace HR := Lib.hid (HR.out.below hb); clear hb; (try clear c0 c1); obtain ⟨c0, c1⟩ := HR.out.c2
    go_wp2
    clear c0 c1
    go_loopw [4] (fun i wr => ∃ k : Nat, 1 ≤ k ∧ k ≤ 6 ∧ i = .int .i64 k ∧ Hid (Below w_.heap.size w_ wr ∧ F (6 - k) k = F 5 1)) (fun i _ => 6 - (intOf i).toNat)
    case atStart => exact ⟨1, by omega, by omega, rfl, Below.refl _ _, rfl⟩
    case round =>
      obtain ⟨k, hk1, hk6, rfl, HC⟩ := hrel
      obtain ⟨c0, c1⟩ := (HR.out.below HC.out.1).c2
      have hsz := (HR.out.below HC.out.1).lt
      by_cases hlt : k < 6
      · have HST : Hid (F (6 - k) k = if p k = true then k else F (6 - (k + 1)) (k + 1)) := by
          have := HK.out (6 - (k + 1)) k
          have e : 6 - (k + 1) + 1 = 6 - k := by omega
          rwa [e] at this
        have HE0 : Hid (Ro (wr.alloc (.cells #[] 2)) wr.heap.size (.slice (some ⟨wr.heap.size, 0, none⟩) 0 0) []) := own_empty wr 2 1
        have HB0 := Lib.hid (below_alloc wr (.cells #[] 2))
        go_wp2_with fail
        refine (l07Find_any n A c xs HS.out k hk6 _ n wr.heap.size [] _ 0 _ _ rfl (by simp) (by omega) HB0.out.size (HA.out.below (below_up HC.out.1 HB0.out)) HE0.out).mono ?_
        rintro e w5 ⟨hb, (⟨M, r5, hM, rfl, hr5⟩ | ⟨hM, rfl⟩)⟩
        · have HE : Hid (F 5 1 = k) := by
            unfold Hid
            rw [← HC.out.2, HST.out, if_pos]
            rw [HP.out, hM]; rfl
          have HW5 := Lib.hid (HW.out.below (below_up HC.out.1 (below_up HB0.out hb)))
          clear hM hr5 hb c0 c1
          go_wp2
          go_ret2
          exact ⟨by rw [HN.out]; exact ret_ii (by rw [HE.out]) rfl, HW5.out⟩
        · have HE : Hid (F (6 - (k + 1)) (k + 1) = F 5 1) := by
            unfold Hid
            rw [← HC.out.2, HST.out, if_neg]
            rw [HP.out, hM]; simp
          have HB5 := Lib.hid (below_up HC.out.1 (below_up HB0.out hb))
          clear hM hb c0 c1
          go_wp2
          go_roundw
          case rel => exact ⟨k + 1, by omega, by omega, by go_num, HB5.out, HE.out⟩
          case measure => simp [intOf]; omega
      · obtain rfl : k = 6 := by omega
        go_wp2
        go_ret2
        exact ⟨by rw [HN.out]; exact ret_ii (by rw [← HC.out.2, HK0.out]) rfl, HW.out.below HC.out.1⟩

end Go.Proofs.Ytbknpflbafjblaa

/- The frame of a law's proof: arguments opened, the row shut; conditions: none. -/
namespace Go.Proofs.Ytbknpflbafjblaa
open Go.ChangeShapes Go.WideShapes Go.ChangeAt Go.RowKit Go.Deep Go.Joins

theorem Try.own : ownKnob Try.prog.godebug = none := by kernel_rfl
theorem Try.laidOut : laidOutB Try.prog = true := by kernel_rfl

set_option maxRecDepth 100000
section
variable {H : Type} {enc : TypeId × Value → H}

theorem trodAll_below {P : Program} (hl : laidOutB P = true) {W W' : World} (hb : Below W.heap.size W W') : ∀ (ts : List TypeId) (vs : List Value) (ds : List (DataW H)) (ps : List MemPlace),
    (∀ t ∈ ts, P.readableRec t = true ∧ t < P.types.size) → (∀ x ∈ ps, x.block < W.heap.size) →
    DataW.TrodAll enc P W 0 (fun _ => true) true ts vs ds ps → DataW.TrodAll enc P W' 0 (fun b => decide (b < W.heap.size)) true ts vs ds ps := by
  intro ts
  induction ts with
  | nil =>
    intro vs ds ps _ _ h
    cases vs <;> cases ds <;> first | exact h | exact h.elim
  | cons t ts ih =>
    intro vs ds ps ht hlt h
    cases vs with
    | nil => exact h.elim
    | cons v vs =>
      cases ds with
      | nil => exact h.elim
      | cons d ds =>
        obtain ⟨p, q, h1, h2, rfl⟩ := h
        exact ⟨p, q, Below.trod hl (ht t (by simp)).1 (ht t (by simp)).2 h1 hb (fun x hx => hlt x (by simp [hx])),
          ih vs ds q (fun t' ht' => ht t' (by simp [ht'])) (fun x hx => hlt x (by simp [hx])) h2, rfl⟩

/-- A law's call that returns true and leaves what was there: the row's post. -/
theorem law_post {P : Program} {f : Func} {s : ChangeSpec} {W W' : World} {args : Array Value} {ds gs : List (DataW H)} {before : List MemPlace} {tb : TypeId}
    (hW : DataW.Whole enc P f.params.toList s.vars false W args.toList ds gs before) (hvars : s.vars = [])
    (hfn : s.fn H (ds ++ gs) = { results := [.lit (.bool true)], args := ds }) (hrt : f.resultTypes.toList = [tb]) (hbool : P.underlying tb = some .bool)
    (hl : laidOutB P = true) (hread0 : f.params.toList.all (fun t => P.readableRec t && decide (t < P.types.size)) = true) (hb : Below W.heap.size W W') :
    s.post enc P f false true false false W args (.bool true) W' := by
  have hread : ∀ t ∈ f.params.toList, P.readableRec t = true ∧ t < P.types.size := fun t ht => by
    have := List.all_eq_true.1 hread0 t ht
    simpa using this
  have hlt : ∀ x ∈ before, x.block < W.heap.size := fun p hp => hW.lt p hp
  have hW' := hW
  obtain ⟨p, q, hA, hV, hpq, hfz, hnd⟩ := hW
  rw [hvars] at hV
  obtain ⟨rfl, rfl⟩ := trodVars_none hV
  rw [List.append_nil] at hpq
  subst hpq
  refine ⟨ds, [], before, [], before, [], hW', ?_, ?_, ?_, ?_, fun h => by cases h⟩
  · rw [hfn, hrt]
    have : f.resultTypes.size = 1 := by rw [← Array.length_toList, hrt]; rfl
    rw [this]
    exact trodAll_mk1 (shut_bool hbool true)
  · rw [hfn]
    exact trodAll_below hl hb _ _ _ _ hread hlt hA
  · rw [hfn, hvars]; rfl
  · exact World.keptBut_mono (fun x hx => ⟨hx, .inr (.inl hx)⟩) (hb.frame (· ∈ before))

variable {W : World}
theorem open_blks {n : Nat} {v : Value} {y : DataW H × List MemPlace} (h : DataW.trod enc Try.prog W 0 (fun _ => true) true n 22 [v] = some y) :
    ∃ A c xs, v = .slice A xs.length c ∧ Bl W A xs ∧ xs.length ≤ 9223372036854775807 := by
  rcases open_slice Try.underlying22 h with ⟨hcs, _⟩ | ⟨a, len, cap, m, n', D, Pl, hcs, _, hlc, hcm, hm, _, hi⟩
  · simp only [List.cons.injEq, and_true] at hcs
    exact ⟨none, 0, [], by simpa using hcs, .inl rfl, by simp⟩
  · simp only [List.cons.injEq, and_true] at hcs
    simp only [if_true] at hm
    have hC : Try.prog.cellsOf 98 = 3 := by kernel_rfl
    have hC2 : Try.prog.cellsOf 2 = 1 := by kernel_rfl
    have hel : ∀ i, i < len → ∃ b : Blk, W.cell? ((a.add (i * 3)).add 0) = some (.int .i64 b.1) ∧ W.cell? ((a.add (i * 3)).add 1) = some (.int .i64 b.2.1) ∧ W.cell? ((a.add (i * 3)).add 2) = some (.int .i64 b.2.2) := by
      intro i hil
      obtain ⟨cs', h1, h2⟩ := hi i (by omega)
      rw [hC] at h1
      obtain ⟨xs, m', _, _, hlen, hxl, he⟩ := DataW.trod_array Try.underlying98 h2
      rw [hC] at hlen
      obtain ⟨_, _, hc⟩ := World.cells?_some h1
      match cs', hlen with
      | [c0, c1, c2], _ =>
        have e0 := he 0 (by omega); have e1 := he 1 (by omega); have e2 := he 2 (by omega)
        rw [hC2] at e0 e1 e2
        simp only [Nat.zero_mul, Nat.one_mul, List.drop_zero, List.take_succ_cons, List.take_zero, List.drop_succ_cons, Nat.reduceMul] at e0 e1 e2
        rw [List.getElem?_eq_getElem (by omega)] at e0 e1 e2
        obtain ⟨p, hp, _, _⟩ := DataW.trod_int Try.underlying2 e0
        obtain ⟨q, hq, _, _⟩ := DataW.trod_int Try.underlying2 e1
        obtain ⟨r, hr, _, _⟩ := DataW.trod_int Try.underlying2 e2
        simp only [List.cons.injEq, and_true] at hp hq hr
        subst hp hq hr
        exact ⟨(p, q, r), hc 0 (by omega), hc 1 (by omega), hc 2 (by omega)⟩
    obtain ⟨f, hf⟩ := choose_lt hel
    refine ⟨some a, cap, (List.range len).map f, by simpa using hcs, ?_, by unfold maxLen at hcm; simp; omega⟩
    by_cases h0 : len = 0
    · subst h0; exact .inl (by simp)
    · right
      obtain ⟨b, o, sp⟩ := a
      have hc0 := (hf 0 (by omega)).1
      rw [Nat.zero_mul] at hc0
      have hsp : sp = none ∧ b < W.heap.size := by
        simp only [Addr.add, if_true] at hc0
        unfold World.cell? at hc0
        split at hc0
        · rename_i heq
          constructor
          · cases sp with
            | none => rfl
            | some s => simp at hc0
          · rcases Nat.lt_or_ge b W.heap.size with hlt | hge
            · exact hlt
            · simp only at heq; rw [Array.getElem?_eq_none hge] at heq; cases heq
        · cases hc0
      obtain ⟨rfl, hlt⟩ := hsp
      refine ⟨b, o, rfl, hlt, fun k hk => ?_⟩
      have hk : k < len := by simpa using hk
      obtain ⟨f0, f1, f2⟩ := hf k hk
      have hn : nth ((List.range len).map f) k = f k := by simp [nth, hk]
      rw [hn]
      rw [add_add] at f0 f1 f2
      have key : ∀ j, (⟨b, o, none⟩ : Addr).add j = ⟨b, o + j, none⟩ := by intro j; unfold Addr.add; split <;> simp_all
      rw [key] at f0 f1 f2
      exact ⟨f0, f1, f2⟩

theorem open_nums {n : Nat} {v : Value} {y : DataW H × List MemPlace} (h : DataW.trod enc Try.prog W 0 (fun _ => true) true n 42 [v] = some y) :
    ∃ A c xs, v = .slice A xs.length c ∧ Il W A xs ∧ (∀ x ∈ xs, -9223372036854775808 ≤ x ∧ x ≤ 9223372036854775807) ∧ xs.length ≤ 9223372036854775807 := by
  have hC2 : Try.prog.cellsOf 2 = 1 := by kernel_rfl
  rcases open_slice1 Try.underlying42 hC2 h with ⟨hcs, _⟩ | ⟨a, len, cap, m, n', V, D, Pl, hcs, _, hlc, hcm, hm, _, hi⟩
  · simp only [List.cons.injEq, and_true] at hcs
    exact ⟨none, 0, [], by simpa using hcs, .inl rfl, by simp, by simp⟩
  · simp only [List.cons.injEq, and_true] at hcs
    simp only [if_true] at hm
    have hel : ∀ i, i < len → ∃ x : Int, W.cell? (a.add i) = some (.int .i64 x) ∧ -9223372036854775808 ≤ x ∧ x ≤ 9223372036854775807 := by
      intro i hil
      obtain ⟨h1, h2⟩ := hi i (by omega)
      obtain ⟨p, hp, _, hw⟩ := DataW.trod_int Try.underlying2 h2
      simp only [List.cons.injEq, and_true] at hp
      rw [hp] at h1
      exact ⟨p, h1, bounds_i64 hw⟩
    obtain ⟨f, hf⟩ := choose_lt hel
    refine ⟨some a, cap, (List.range len).map f, by simpa using hcs, ?_, ?_, by unfold maxLen at hcm; simp; omega⟩
    · by_cases h0 : len = 0
      · subst h0; exact .inl (by simp)
      · right
        obtain ⟨b, o, sp⟩ := a
        have hc0 := (hf 0 (by omega)).1
        have hsp : sp = none ∧ b < W.heap.size := by
          simp only [Addr.add, if_true] at hc0
          unfold World.cell? at hc0
          split at hc0
          · rename_i heq
            constructor
            · cases sp with
              | none => rfl
              | some s => simp at hc0
            · rcases Nat.lt_or_ge b W.heap.size with hlt | hge
              · exact hlt
              · simp only at heq; rw [Array.getElem?_eq_none hge] at heq; cases heq
          · cases hc0
        obtain ⟨rfl, hlt⟩ := hsp
        refine ⟨b, o, rfl, hlt, fun k hk => ?_⟩
        have hk : k < len := by simpa using hk
        have f0 := (hf k hk).1
        have hn : nthI ((List.range len).map f) k = f k := by simp [nthI, hk]
        rw [hn]
        have key : ∀ j, (⟨b, o, none⟩ : Addr).add j = ⟨b, o + j, none⟩ := by intro j; unfold Addr.add; split <;> simp_all
        rw [key] at f0
        exact f0
    · intro x hx
      simp only [List.mem_map, List.mem_range] at hx
      obtain ⟨i, hi', rfl⟩ := hx
      exact (hf i hi').2

theorem open_sys {b0 : Nat} {v : Value} {d : DataW H} {ps : List MemPlace} (hv : Value.okWide Try.prog W .any b0 24 v) (h : DataW.Trod enc Try.prog W 0 (fun _ => true) true 24 v d ps) :
    ∃ n A c xs, v = .agg #[.int .i64 n, .slice A xs.length c] ∧ Bl W A xs ∧ xs.length ≤ 9223372036854775807 ∧ -9223372036854775808 ≤ n ∧ n ≤ 9223372036854775807 := by
  obtain ⟨v0, v1, y0, y1, n, rfl, rfl, rfl, h0, h1⟩ := open_agg2 Try.underlying24 (by kernel_rfl) (by kernel_rfl) hv h
  obtain ⟨p, hp, _, hw⟩ := DataW.trod_int Try.underlying2 h0
  simp only [List.cons.injEq, and_true] at hp
  obtain ⟨A, c, xs, rfl, hB, hl⟩ := open_blks h1
  subst hp
  exact ⟨p, A, c, xs, rfl, hB, hl, (bounds_i64 hw).1, (bounds_i64 hw).2⟩

end
end Go.Proofs.Ytbknpflbafjblaa

/- Contracts of the law's own small functions: toBlock, toBlockS, toSystem, szBlockS, szSystem, eqBlockS, eqSystem; conditions: stated in each. -/
namespace Go.Proofs.Ytbknpflbafjblaa
open Go.RowKit
set_option maxHeartbeats 400000
set_option linter.unusedSimpArgs false
set_option linter.unusedVariables false

theorem toBlock_any (b : Blk) (w : World) :
    Calls Try.prog 107 #[.agg #[.int .i64 b.1, .int .i64 b.2.1, .int .i64 b.2.2]] w fun e w' => e = .returned (.agg #[.int .i64 b.1, .int .i64 b.2.1, .int .i64 b.2.2]) ∧ Below w.heap.size w w' := by
  obtain ⟨p, q, r⟩ := b
  dsimp only
  go_enter Try.func107, Try.ntmps107
  go_wp2
  refine wp_loop_rounds 4 ?_
  rw [rounds_succ]; go_wp2
  rw [rounds_succ]; go_wp2
  rw [rounds_succ]; go_wp2
  rw [rounds_succ]; go_wp2
  go_returns
  exact ⟨rfl, by go_grown⟩

theorem infoBlk : (Try.prog.info? 99).map (fun i => (i.zero, i.size, i.bytes)) = some (some (.agg #[.int .i64 0, .int .i64 0, .int .i64 0]), 3, 24) := by kernel_rfl

theorem toBlockS_any (A : Option Addr) (c : Nat) (xs : List Blk) (w : World) (hA : Bl w A xs) (hl : xs.length ≤ 1048576) :
    Calls Try.prog 55 #[.slice A xs.length c] w fun e w' => ∃ g, e = .returned (.slice (some ⟨g, 0, none⟩) xs.length xs.length) ∧ (∃ cur, Row w' g 99 cur ∧ cur.size = xs.length * 3 ∧ ∀ k, k < xs.length → At3 cur k (nth xs k)) ∧ w.heap.size ≤ g ∧ Below w.heap.size w w' := by
  obtain ⟨i0, hi, hz0, hz1, hz2⟩ := info_parts infoBlk
  have HA := Lib.hid hA; clear hA
  go_enter Try.func55, Try.ntmps55
  go_wp2_with (at_make; refine wpList_make_full _ rfl _ _ 28 rfl w.heap.size 99 i0 _ 3 Try.underlying28 hi hz0 hz1 .i64 .i64 _ _ xs.length rfl rfl rfl rfl (by rw [hz2]; omega) (by unfold maxLen; omega) (Nat.le_refl _) ?_; intro w0 hown0 hgrow0)
  obtain ⟨cur0, hR0, hcs0⟩ := Row.own hown0
  have hB0 : Below w.heap.size w w0 := below_grown (Below.refl _ _) hgrow0 (fun k hk => by cases hk)
  have HR0 := Lib.hid hR0; have HB0 := Lib.hid hB0; have HS := Lib.hid hcs0
  clear hown0 hgrow0 hR0 hB0 hcs0 hi hz0 hz1 hz2
  go_loopw [4] (fun i wr => ∃ k : Nat, k ≤ xs.length ∧ i = .int .i64 k ∧ Hid (Below w.heap.size w wr ∧ ∃ cur, Row wr w.heap.size 99 cur ∧ cur.size = xs.length * 3 ∧ ∀ j, j < k → At3 cur j (nth xs j))) (fun i _ => xs.length - (intOf i).toNat)
  case atStart => exact ⟨0, by omega, rfl, HB0.out, cur0, HR0.out, HS.out, fun j hj => by omega⟩
  case round =>
    obtain ⟨k, hk, rfl, HC⟩ := hrel
    by_cases hlt : k < xs.length
    · obtain ⟨b1, o1, hA1, hb1, p0, p1, p2⟩ := (HA.out.below HC.out.1).at_ hlt
      subst hA1
      obtain ⟨hb, cur, hR, hcs, hat⟩ := HC.out
      have HB := Lib.hid hb; have HR := Lib.hid hR; have HCS := Lib.hid hcs; have HAT := Lib.hid hat
      clear hb hR hcs hat HC
      go_wp2_with fail
      refine (toBlock_any (nth xs k) _).mono ?_
      rintro e w1 ⟨rfl, hb2⟩
      have HR1 := Lib.hid (HR.out.below hb2)
      have HB1 := Lib.hid (below_up HB.out hb2)
      clear hb2 HR HB
      have hcs := HCS.out
      obtain ⟨u0, q0⟩ := HR1.out.cellAt (i := k * 3) (by omega)
      obtain ⟨u1, q1⟩ := HR1.out.cellAt (i := k * 3 + 1) (by omega)
      obtain ⟨u2, q2⟩ := HR1.out.cellAt (i := k * 3 + 2) (by omega)
      have f0 := HR1.out.frozen (k * 3)
      have f1 := HR1.out.frozen (k * 3 + 1)
      have f2 := HR1.out.frozen (k * 3 + 2)
      clear hcs
      go_wp2
      go_roundw
      case rel =>
        refine ⟨k + 1, by omega, by go_num, ((HB1.out.setCell (Nat.le_refl _) _).setCell (Nat.le_refl _) _).setCell (Nat.le_refl _) _, _, ((HR1.out.set _ _).set _ _).set _ _, by simpa using HCS.out, fun j hj => ?_⟩
        by_cases hjk : j = k
        · subst hjk
          exact At3.new (by have := HCS.out; omega) _
        · exact (HAT.out j (by omega)).set3 hjk _ _ _
      case measure => simp [intOf]; omega
    · obtain rfl : k = xs.length := by omega
      go_wp2
      go_ret
      obtain ⟨hb, cur, hR, hcs, hat⟩ := HC.out
      exact ⟨w.heap.size, rfl, ⟨cur, hR, hcs, hat⟩, Nat.le_refl _, hb⟩

theorem toSystem_row (v : Int) (A : Option Addr) (c : Nat) (xs : List Blk) (w : World) (hA : Bl w A xs) (hl : xs.length ≤ 1048576) :
    Calls Try.prog 17 #[.agg #[.int .i64 v, .slice A xs.length c]] w fun e w' => ∃ g, e = .returned (.agg #[.int .i64 v, .slice (some ⟨g, 0, none⟩) xs.length xs.length]) ∧ (∃ cur, Row w' g 99 cur ∧ cur.size = xs.length * 3 ∧ ∀ k, k < xs.length → At3 cur k (nth xs k)) ∧ w.heap.size ≤ g ∧ Below w.heap.size w w' := by
  have HA := Lib.hid hA; clear hA
  go_enter Try.func17, Try.ntmps17
  go_wp2_with fail
  refine (toBlockS_any A c xs _ (HA.out.below (by go_grown)) hl).mono ?_
  rintro e w1 ⟨g, rfl, ⟨cur, hR, hcs, hat⟩, hle, hb⟩
  have hR0 : Row w1 (w.heap.size + 1) 30 #[.int .i64 0, .slice none 0 0] := by
    have h0 := Row.new (w.alloc (.cells #[.int .i64 v, .slice A xs.length c] 24)) 30 #[.int .i64 0, .slice none 0 0]
    rw [World.size_alloc] at h0
    exact (h0.below (below_alloc _ _)).below hb
  obtain ⟨hc1, hf1⟩ := old_cells hb
  have hsz : w.heap.size + 3 ≤ w1.heap.size := by have := hb.size; simp at this; omega
  have HBL := Lib.hid hR; have HCS := Lib.hid hcs; have HAT := Lib.hid hat
  have HB := Lib.hid hb
  have HR0 := Lib.hid hR0
  have hg3 : w.heap.size + 3 ≤ g := by simpa using hle
  clear hR hcs hat hb hle hR0
  go_wp2
  have hR3 : Row (((w1.setCell ⟨w.heap.size + 1 + 1, 1, none⟩ (.slice (some ⟨g, 0, none⟩) xs.length xs.length)).setCell ⟨w.heap.size + 1, 0, none⟩ (.int .i64 v)).setCell ⟨w.heap.size + 1, 1, none⟩ (.slice (some ⟨g, 0, none⟩) xs.length xs.length)) (w.heap.size + 1) 30 #[.int .i64 v, .slice (some ⟨g, 0, none⟩) xs.length xs.length] :=
    ((HR0.out.far (by simp) _).set 0 _).set 1 _
  have r0 := hR3.cell 0
  have r1 := hR3.cell 1
  refine bodyPost_ret (v := .agg #[.int .i64 v, .slice (some ⟨g, 0, none⟩) xs.length xs.length]) (by simp [results, Try.results17, go_sem, r0, r1]) rfl ⟨g, rfl, ?_, by omega, ?_⟩
  · exact ⟨cur, ((HBL.out.far (by simp; omega) _).far (by simp; omega) _).far (by simp; omega) _, HCS.out, HAT.out⟩
  · refine Below.setCell (Below.setCell (Below.setCell (below_up ?_ HB.out) ?_ _) ?_ _) ?_ _
    · go_grown
    all_goals simp
    all_goals omega

theorem toSystem_any (v : Int) (A : Option Addr) (c : Nat) (xs : List Blk) (w : World) (hA : Bl w A xs) (hl : xs.length ≤ 1048576) :
    Calls Try.prog 17 #[.agg #[.int .i64 v, .slice A xs.length c]] w fun e w' => ∃ g, e = .returned (.agg #[.int .i64 v, .slice (some ⟨g, 0, none⟩) xs.length xs.length]) ∧ Bl w' (some ⟨g, 0, none⟩) xs ∧ w.heap.size ≤ g ∧ Below w.heap.size w w' := by
  refine (toSystem_row v A c xs w hA hl).mono ?_
  rintro e w1 ⟨g, rfl, ⟨cur, hR, _, hat⟩, hg, hb⟩
  exact ⟨g, rfl, Bl.row hR hat, hg, hb⟩

theorem szBlockS_any (A : Option Addr) (n c : Nat) (left : Int) (w : World) (hn : n ≤ 9223372036854775807) (h0 : 0 ≤ left) (h1 : left ≤ 1048576) :
    Calls Try.prog 51 #[.slice A n c, .int .i64 left] w fun e w' => e = .returned (.int .i64 (if left - n < 0 then -1 else left - n)) ∧ w = w' := by
  go_enter Try.func51, Try.ntmps51
  by_cases h : left - n < 0
  · go_wp2
    go_ret
    exact ⟨ret_int (by first | rfl | rw [if_pos h]), rfl⟩
  · go_wp2
    go_ret
    exact ⟨ret_int (by first | rfl | rw [if_neg (by omega)]), rfl⟩

theorem szSystem_any (v : Int) (A : Option Addr) (n c : Nat) (left : Int) (w : World) (hn : n ≤ 9223372036854775807) (h0 : 0 ≤ left) (h1 : left ≤ 1048576) :
    Calls Try.prog 15 #[.agg #[.int .i64 v, .slice A n c], .int .i64 left] w fun e w' => e = .returned (.int .i64 (if left - n < 0 then -1 else left - n)) ∧ Below w.heap.size w w' := by
  go_enter Try.func15, Try.ntmps15
  by_cases h : left - n < 0
  · have hi : (if left - (n : Int) < 0 then (-1 : Int) else left - n) = -1 := if_pos h
    rw [hi]
    have hi' := Lib.hid hi
    clear hi
    go_wp2_with (go_at_call 51; refine (szBlockS_any A n c left _ hn h0 h1).mono ?_; rw [hi'.out]; rintro e w' ⟨rfl, rfl⟩)
    go_ret
    exact ⟨rfl, below_alloc _ _⟩
  · have hi : (if left - (n : Int) < 0 then (-1 : Int) else left - n) = left - n := if_neg h
    rw [hi]
    have hi' := Lib.hid hi
    clear hi
    go_wp2_with (go_at_call 51; refine (szBlockS_any A n c left _ hn h0 h1).mono ?_; rw [hi'.out]; rintro e w' ⟨rfl, rfl⟩)
    go_ret
    exact ⟨rfl, below_alloc _ _⟩

theorem nth_ext {xs ys : List Blk} (hl : xs.length = ys.length) (h : ∀ j, j < xs.length → nth xs j = nth ys j) : xs = ys := by
  apply List.ext_getElem hl
  intro i h1 h2
  have := h i h1
  simpa [nth, h1, h2] using this
noncomputable def eqBls (xs ys : List Blk) : Bool := open Classical in decide (xs = ys)
theorem eqBls_true {xs ys : List Blk} (h : xs = ys) : eqBls xs ys = true := by unfold eqBls; simp [h]
theorem eqBls_false {xs ys : List Blk} (h : ¬ xs = ys) : eqBls xs ys = false := by unfold eqBls; simp [h]

theorem eqBlockS_any (A B : Option Addr) (c d : Nat) (xs ys : List Blk) (w : World) (hA : Bl w A xs) (hB : Bl w B ys) (hla : xs.length ≤ 1073741824) (hlb : ys.length ≤ 1073741824) :
    Calls Try.prog 60 #[.slice A xs.length c, .slice B ys.length d] w fun e w' => e = .returned (.bool (eqBls xs ys)) ∧ Below w.heap.size w w' := by
  have HA := Lib.hid hA; have HB := Lib.hid hB; clear hA hB
  by_cases hl : xs.length = ys.length
  · have HL := Lib.hid hl
    clear hl
    have hne : ((xs.length : Int) != (ys.length : Int)) = false := by simp [HL.out]
    go_enter Try.func60, Try.ntmps60
    go_wp2
    go_loopw [5] (fun i wr => ∃ k : Nat, k ≤ xs.length ∧ i = .int .i64 k ∧ Below w.heap.size w wr ∧ Hid (∀ j, j < k → nth xs j = nth ys j)) (fun i _ => xs.length - (intOf i).toNat)
    case atStart => exact ⟨0, by omega, rfl, Below.refl _ _, fun j hj => by omega⟩
    case round =>
      obtain ⟨k, hk, rfl, hb, HJ⟩ := hrel
      by_cases hlt : k < xs.length
      · have hltb : k < ys.length := by rw [← HL.out]; exact hlt
        obtain ⟨b1, o1, hA1, hb1, p0, p1, p2⟩ := (HA.out.below hb).at_ hlt
        subst hA1
        obtain ⟨b2, o2, hA2, hb2, q0, q1, q2⟩ := (HB.out.below hb).at_ hltb
        subst hA2
        by_cases he : eqB (nth xs k) (nth ys k) = true
        · go_wp2
          refine wp_region_ge_lit (by kernel_rfl) (by kernel_rfl) ?_; (repeat (go_big_quiet_step ((go_at_call 111; exact ge_call (eqBlock_any (nth xs k) (nth ys k) _))))); refine wpQuiet_nil ?_
          rintro w1 ⟨x, rfl⟩
          go_wp2
          go_roundw
          case rel =>
            refine ⟨k + 1, by omega, by go_num, below_up hb (ge_below _ _), fun j hj => ?_⟩
            by_cases hjk : j < k
            · exact HJ.out j hjk
            · obtain rfl : j = k := by omega
              simpa [eqB] using he
          case measure => simp [intOf]; omega
        · have he' : eqB (nth xs k) (nth ys k) = false := by simpa using he
          clear he
          go_wp2
          refine wp_region_ge_lit (by kernel_rfl) (by kernel_rfl) ?_; (repeat (go_big_quiet_step ((go_at_call 111; exact ge_call (eqBlock_any (nth xs k) (nth ys k) _))))); refine wpQuiet_nil ?_
          rintro w1 ⟨x, rfl⟩
          go_wp2
          go_ret
          exact ⟨ret_bool (eqBls_false fun h => by rw [h] at he'; simp [eqB] at he').symm, below_up hb (ge_below _ _)⟩
      · obtain rfl : k = xs.length := by omega
        go_wp2
        go_ret
        exact ⟨ret_bool (eqBls_true (nth_ext HL.out HJ.out)).symm, hb⟩
  · have hne : ((xs.length : Int) != (ys.length : Int)) = true := by rw [bne_iff_ne]; omega
    have HN := Lib.hid hl
    clear hl
    go_enter Try.func60, Try.ntmps60
    go_wp2
    go_ret
    exact ⟨ret_bool (eqBls_false fun h => HN.out (by rw [h])).symm, Below.refl _ _⟩

noncomputable def eqSys (v : Int) (xs : List Blk) (u : Int) (ys : List Blk) : Bool := open Classical in decide (v = u ∧ xs = ys)
theorem eqSys_true {v : Int} {xs : List Blk} {u : Int} {ys : List Blk} (h : v = u ∧ xs = ys) : eqSys v xs u ys = true := by unfold eqSys; simp [h]
theorem eqSys_false {v : Int} {xs : List Blk} {u : Int} {ys : List Blk} (h : ¬ (v = u ∧ xs = ys)) : eqSys v xs u ys = false := by unfold eqSys; simp [h]

theorem eqSystem_any (v u : Int) (A B : Option Addr) (c d : Nat) (xs ys : List Blk) (w : World) (hA : Bl w A xs) (hB : Bl w B ys) (hla : xs.length ≤ 1073741824) (hlb : ys.length ≤ 1073741824) :
    Calls Try.prog 19 #[.agg #[.int .i64 v, .slice A xs.length c], .agg #[.int .i64 u, .slice B ys.length d]] w fun e w' => e = .returned (.bool (eqSys v xs u ys)) ∧ Below w.heap.size w w' := by
  have HA := Lib.hid hA; have HB := Lib.hid hB; clear hA hB
  by_cases hv : v = u
  · subst hv
    by_cases he : eqBls xs ys = true
    all_goals
      go_enter Try.func19, Try.ntmps19
      go_wp2_with (go_at_call 60; refine (eqBlockS_any A B c d xs ys _ (HA.out.below (by go_grown)) (HB.out.below (by go_grown)) hla hlb).mono ?_; rintro e w' ⟨rfl, hb⟩)
      go_ret
    · refine ⟨ret_bool (eqSys_true ⟨rfl, ?_⟩).symm, below_up (by go_grown) hb⟩
      unfold eqBls at he; simpa using he
    · refine ⟨ret_bool (eqSys_false fun h => he (eqBls_true h.2)).symm, below_up (by go_grown) hb⟩
  · have hne : (v != u) = true := by simpa using hv
    go_enter Try.func19, Try.ntmps19
    go_wp2
    go_ret
    exact ⟨ret_bool (eqSys_false fun h => hv h.1).symm, by go_grown⟩

end Go.Proofs.Ytbknpflbafjblaa

/- Contracts of the law's own small functions over lists of numbers, and of mark and held; conditions: stated in each. -/
namespace Go.Proofs.Ytbknpflbafjblaa
open Go.RowKit
set_option maxHeartbeats 400000
set_option linter.unusedSimpArgs false
set_option linter.unusedVariables false

theorem infoInt : (Try.prog.info? 2).map (fun i => (i.zero, i.size, i.bytes)) = some (some (.int .i64 0), 1, 8) := by kernel_rfl

/-- m cells from the head of a row can be written. -/
def Wr (w : World) (t : TypeId) (A : Option Addr) (m : Nat) : Prop := m = 0 ∨ ∃ g cur, A = some ⟨g, 0, none⟩ ∧ Row w g t cur ∧ m ≤ cur.size
/-- .. and hold k, k + 1, .. -/
def Mk (w : World) (t : TypeId) (A : Option Addr) (m : Nat) (k : Int) : Prop := m = 0 ∨ ∃ g cur, A = some ⟨g, 0, none⟩ ∧ Row w g t cur ∧ m ≤ cur.size ∧ ∀ j, j < m → cur[j]? = some (.int .i64 (k + j))
theorem Mk.below {w w' : World} {t : TypeId} {A : Option Addr} {m : Nat} {k : Int} (h : Mk w t A m k) (hb : Below w.heap.size w w') : Mk w' t A m k := by
  rcases h with h | ⟨g, cur, hA, hR, hm, hc⟩
  · exact .inl h
  · exact .inr ⟨g, cur, hA, hR.below hb, hm, hc⟩
theorem Wr.below {w w' : World} {t : TypeId} {A : Option Addr} {m : Nat} (h : Wr w t A m) (hb : Below w.heap.size w w') : Wr w' t A m := by
  rcases h with h | ⟨g, cur, hA, hR, hm⟩
  · exact .inl h
  · exact .inr ⟨g, cur, hA, hR.below hb, hm⟩
theorem Wr.own {w : World} {base : Nat} {t : TypeId} {size n c : Nat} {A : Option Addr} {xs : List Value} (h : w.ownsRow base t size (.slice A n c) n xs) : Wr w t A (n * size) := by
  rcases h.2 with ⟨_, hn⟩ | ⟨g, cap, cur, hv, _, hg, hnc, _, hcs, _⟩
  · exact .inl (by rw [hn, Nat.zero_mul])
  · simp only [Value.slice.injEq] at hv
    exact .inr ⟨g, cur, hv.1, hg, by rw [hcs]; exact Nat.mul_le_mul_right _ hnc⟩
theorem Wr.row {w : World} {t : TypeId} {g m : Nat} {cur : Array Value} (h : Row w g t cur) (hm : m ≤ cur.size) : Wr w t (some ⟨g, 0, none⟩) m := .inr ⟨g, cur, rfl, h, hm⟩

theorem toInt64S_any (A : Option Addr) (c : Nat) (xs : List Int) (w : World) (hA : Il w A xs) (hl : xs.length ≤ 1048576) :
    Calls Try.prog 26 #[.slice A xs.length c] w fun e w' => ∃ g, e = .returned (.slice (some ⟨g, 0, none⟩) xs.length xs.length) ∧ (∃ cur, Row w' g 2 cur ∧ cur.size = xs.length * 1 ∧ ∀ k, k < xs.length → cur[k]? = some (.int .i64 (nthI xs k))) ∧ w.heap.size ≤ g ∧ Below w.heap.size w w' := by
  obtain ⟨i0, hi, hz0, hz1, hz2⟩ := info_parts infoInt
  have HA := Lib.hid hA; clear hA
  go_enter Try.func26, Try.ntmps26
  go_wp2_with (at_make; refine wpList_make_full _ rfl _ _ 42 rfl w.heap.size 2 i0 _ 1 Try.underlying42 hi hz0 hz1 .i64 .i64 _ _ xs.length rfl rfl rfl rfl (by rw [hz2]; omega) (by unfold maxLen; omega) (Nat.le_refl _) ?_; intro w0 hown0 hgrow0)
  obtain ⟨cur0, hR0, hcs0⟩ := Row.own hown0
  have hB0 : Below w.heap.size w w0 := below_grown (Below.refl _ _) hgrow0 (fun k hk => by cases hk)
  have HR0 := Lib.hid hR0; have HB0 := Lib.hid hB0; have HS := Lib.hid hcs0
  clear hown0 hgrow0 hR0 hB0 hcs0 hi hz0 hz1 hz2
  go_loopw [4] (fun i wr => ∃ k : Nat, k ≤ xs.length ∧ i = .int .i64 k ∧ Hid (Below w.heap.size w wr ∧ ∃ cur, Row wr w.heap.size 2 cur ∧ cur.size = xs.length * 1 ∧ ∀ j, j < k → cur[j]? = some (.int .i64 (nthI xs j)))) (fun i _ => xs.length - (intOf i).toNat)
  case atStart => exact ⟨0, by omega, rfl, HB0.out, cur0, HR0.out, HS.out, fun j hj => by omega⟩
  case round =>
    obtain ⟨k, hk, rfl, HC⟩ := hrel
    by_cases hlt : k < xs.length
    · obtain ⟨b1, o1, hA1, hb1, p0⟩ := (HA.out.below HC.out.1).at_ hlt
      subst hA1
      obtain ⟨hb, cur, hR, hcs, hat⟩ := HC.out
      obtain ⟨u0, q0⟩ := hR.cellAt (i := k) (by omega)
      have f0 := hR.frozen k
      have HB := Lib.hid hb; have HR := Lib.hid hR; have HCS := Lib.hid hcs; have HAT := Lib.hid hat
      clear hb hR hcs hat HC
      go_wp2
      go_roundw
      case rel =>
        refine ⟨k + 1, by omega, by go_num, HB.out.setCell (Nat.le_refl _) _, _, HR.out.set _ _, by simpa using HCS.out, fun j hj => ?_⟩
        rw [Array.getElem?_setIfInBounds]
        by_cases hjk : k = j
        · subst hjk
          rw [if_pos rfl, if_pos (by have := HCS.out; omega)]
        · rw [if_neg hjk]; exact HAT.out j (by omega)
      case measure => simp [intOf]; omega
    · obtain rfl : k = xs.length := by omega
      go_wp2
      go_ret
      obtain ⟨hb, cur, hR, hcs, hat⟩ := HC.out
      exact ⟨w.heap.size, rfl, ⟨cur, hR, hcs, hat⟩, Nat.le_refl _, hb⟩

noncomputable def eqInts (xs ys : List Int) : Bool := open Classical in decide (xs = ys)
theorem eqInts_true {xs ys : List Int} (h : xs = ys) : eqInts xs ys = true := by unfold eqInts; simp [h]
theorem eqInts_false {xs ys : List Int} (h : ¬ xs = ys) : eqInts xs ys = false := by unfold eqInts; simp [h]
theorem nthI_ext {xs ys : List Int} (hl : xs.length = ys.length) (h : ∀ j, j < xs.length → nthI xs j = nthI ys j) : xs = ys := by
  apply List.ext_getElem hl
  intro i h1 h2
  have := h i h1
  simpa [nthI, h1, h2] using this

theorem eqInt64S_any (A B : Option Addr) (c d : Nat) (xs ys : List Int) (w : World) (hA : Il w A xs) (hB : Il w B ys) (hla : xs.length ≤ 1073741824) (hlb : ys.length ≤ 1073741824) :
    Calls Try.prog 28 #[.slice A xs.length c, .slice B ys.length d] w fun e w' => e = .returned (.bool (eqInts xs ys)) ∧ Below w.heap.size w w' := by
  have HA := Lib.hid hA; have HB := Lib.hid hB; clear hA hB
  by_cases hl : xs.length = ys.length
  · have HL := Lib.hid hl
    clear hl
    have hne : ((xs.length : Int) != (ys.length : Int)) = false := by simp [HL.out]
    go_enter Try.func28, Try.ntmps28
    go_wp2
    go_loopw [5] (fun i wr => ∃ k : Nat, k ≤ xs.length ∧ i = .int .i64 k ∧ Below w.heap.size w wr ∧ Hid (∀ j, j < k → nthI xs j = nthI ys j)) (fun i _ => xs.length - (intOf i).toNat)
    case atStart => exact ⟨0, by omega, rfl, Below.refl _ _, fun j hj => by omega⟩
    case round =>
      obtain ⟨k, hk, rfl, hb, HJ⟩ := hrel
      by_cases hlt : k < xs.length
      · have hltb : k < ys.length := by rw [← HL.out]; exact hlt
        obtain ⟨b1, o1, hA1, hb1, p0⟩ := (HA.out.below hb).at_ hlt
        subst hA1
        obtain ⟨b2, o2, hA2, hb2, q0⟩ := (HB.out.below hb).at_ hltb
        subst hA2
        by_cases he : nthI xs k = nthI ys k
        · have he' : (nthI xs k != nthI ys k) = false := by simpa using he
          have HE := Lib.hid he; clear he
          go_wp2
          go_quiet (fail)
          go_wp2
          go_roundw
          case rel =>
            refine ⟨k + 1, by omega, by go_num, below_drewN hb _, fun j hj => ?_⟩
            by_cases hjk : j < k
            · exact HJ.out j hjk
            · obtain rfl : j = k := by omega
              exact HE.out
          case measure => simp [intOf]; omega
        · have he' : (nthI xs k != nthI ys k) = true := by simpa using he
          have HE := Lib.hid he; clear he
          go_wp2
          go_quiet (fail)
          go_wp2
          go_ret
          exact ⟨ret_bool (eqInts_false fun h => HE.out (by rw [h])).symm, below_drewN hb _⟩
      · obtain rfl : k = xs.length := by omega
        go_wp2
        go_ret
        exact ⟨ret_bool (eqInts_true (nthI_ext HL.out HJ.out)).symm, hb⟩
  · have hne : ((xs.length : Int) != (ys.length : Int)) = true := by rw [bne_iff_ne]; omega
    have HN := Lib.hid hl
    clear hl
    go_enter Try.func28, Try.ntmps28
    go_wp2
    go_ret
    exact ⟨ret_bool (eqInts_false fun h => HN.out (by rw [h])).symm, Below.refl _ _⟩

theorem markInt64S_any (A : Option Addr) (n c : Nat) (k0 : Int) (w : World) (hA : Wr w 2 A n) (hn : n ≤ 1073741824) (h0 : 0 ≤ k0) (h1 : k0 ≤ 1073741824) :
    Calls Try.prog 32 #[.slice A n c, .int .i64 k0] w fun e w' => e = .returned (.int .i64 (k0 + n)) ∧ Mk w' 2 A n k0 ∧ w.grownBy w' (A.map Addr.block) := by
  rcases hA with rfl | ⟨g, cur0, rfl, hR0, hm0⟩
  · go_enter Try.func32, Try.ntmps32
    go_wp2
    go_rounds 1
    go_ret
    exact ⟨ret_int (by simp), .inl rfl, grown_refl _ _⟩
  · have HR0 := Lib.hid hR0; have HM0 := Lib.hid hm0; clear hR0 hm0
    go_enter Try.func32, Try.ntmps32
    go_wp2
    go_loopw [1, 5] (fun s i wr => ∃ k : Nat, k ≤ n ∧ i = .int .i64 k ∧ s = .int .i64 (k0 + k) ∧ Hid (w.grownBy wr (some g) ∧ ∃ cur, Row wr g 2 cur ∧ n ≤ cur.size ∧ ∀ j, j < k → cur[j]? = some (.int .i64 (k0 + j)))) (fun _ i _ => n - (intOf i).toNat)
    case atStart => exact ⟨0, by omega, rfl, by simp, grown_refl _ _, cur0, HR0.out, HM0.out, fun j hj => by omega⟩
    case round =>
      obtain ⟨k, hk, rfl, rfl, HC⟩ := hrel
      by_cases hlt : k < n
      · obtain ⟨hb, cur, hR, hcs, hat⟩ := HC.out
        obtain ⟨u0, q0⟩ := hR.cellAt (i := k) (by omega)
        have f0 := hR.frozen k
        have HB := Lib.hid hb; have HR := Lib.hid hR; have HCS := Lib.hid hcs; have HAT := Lib.hid hat
        clear hb hR hcs hat HC
        go_wp2
        go_roundw
        case rel =>
          refine ⟨k + 1, by omega, by go_num, by simp; omega, grown_set HB.out _ _, _, HR.out.set _ _, by simpa using HCS.out, fun j hj => ?_⟩
          rw [Array.getElem?_setIfInBounds]
          by_cases hjk : k = j
          · subst hjk
            rw [if_pos rfl, if_pos (by have := HCS.out; omega)]
          · rw [if_neg hjk]; exact HAT.out j (by omega)
        case measure => simp [intOf]; omega
      · obtain rfl : k = n := by omega
        go_wp2
        go_ret
        obtain ⟨hb, cur, hR, hcs, hat⟩ := HC.out
        exact ⟨ret_int rfl, .inr ⟨g, cur, rfl, hR, hcs, hat⟩, hb⟩

theorem heldInt64S_any (A : Option Addr) (n c : Nat) (k0 : Int) (w : World) (hA : Mk w 2 A n k0) (hn : n ≤ 1073741824) (h0 : 0 ≤ k0) (h1 : k0 ≤ 1073741824) :
    Calls Try.prog 33 #[.slice A n c, .int .i64 k0] w fun e w' => e = .returned (.int .i64 (k0 + n)) ∧ w = w' := by
  rcases hA with rfl | ⟨g, cur, rfl, hR, hm, hc⟩
  · go_enter Try.func33, Try.ntmps33
    go_wp2
    go_rounds 1
    go_ret
    exact ⟨ret_int (by simp), rfl⟩
  · have HR := Lib.hid hR; have HC := Lib.hid hc; clear hR hc
    go_enter Try.func33, Try.ntmps33
    go_wp2
    go_loop [1, 5] (fun s i => ∃ k : Nat, k ≤ n ∧ i = .int .i64 k ∧ s = .int .i64 (k0 + k)) (fun _ i => n - (intOf i).toNat)
    case atStart => exact ⟨0, by omega, rfl, by simp⟩
    case round =>
      obtain ⟨k, hk, rfl, rfl⟩ := hrel
      by_cases hlt : k < n
      · have q0 := (HR.out.cell k).trans (HC.out k hlt)
        go_wp2
        go_round
        case rel => exact ⟨k + 1, by omega, by go_num, by simp; omega⟩
        case measure => simp [intOf]; omega
      · obtain rfl : k = n := by omega
        go_wp2
        go_ret
        exact ⟨ret_int rfl, rfl⟩

end Go.Proofs.Ytbknpflbafjblaa

/- Contracts of the law's own small functions: mark and held over blocks and systems; conditions: stated in each. -/
namespace Go.Proofs.Ytbknpflbafjblaa
open Go.RowKit
set_option maxHeartbeats 400000
set_option linter.unusedSimpArgs false
set_option linter.unusedVariables false

theorem markBlockS_any (A : Option Addr) (n c : Nat) (k0 : Int) (w : World) (hA : Wr w 99 A (n * 3)) (hn : n ≤ 268435456) (h0 : 0 ≤ k0) (h1 : k0 ≤ 1073741824) :
    Calls Try.prog 74 #[.slice A n c, .int .i64 k0] w fun e w' => e = .returned (.int .i64 (k0 + n * 3)) ∧ Mk w' 99 A (n * 3) k0 ∧ w.grownBy w' (A.map Addr.block) := by
  rcases hA with hz | ⟨g, cur0, rfl, hR0, hm0⟩
  · obtain rfl : n = 0 := by omega
    clear hz
    go_enter Try.func74, Try.ntmps74
    go_wp2
    go_rounds 1
    go_ret
    exact ⟨ret_int (by simp), .inl rfl, grown_refl _ _⟩
  · have HR0 := Lib.hid hR0; have HM0 := Lib.hid hm0; clear hR0 hm0
    go_enter Try.func74, Try.ntmps74
    go_wp2
    go_loopw [1, 5] (fun s i wr => ∃ k : Nat, k ≤ n ∧ i = .int .i64 k ∧ s = .int .i64 (k0 + (k * 3 : Nat)) ∧ Hid (w.grownBy wr (some g) ∧ ∃ cur, Row wr g 99 cur ∧ n * 3 ≤ cur.size ∧ ∀ j, j < k * 3 → cur[j]? = some (.int .i64 (k0 + j)))) (fun _ i _ => n - (intOf i).toNat)
    case atStart => exact ⟨0, by omega, rfl, by simp, grown_refl _ _, cur0, HR0.out, HM0.out, fun j hj => by omega⟩
    case round =>
      obtain ⟨k, hk, rfl, rfl, HC⟩ := hrel
      by_cases hlt : k < n
      · go_wp2
        obtain ⟨wo, rfl⟩ : ∃ wo : World, wo = wr := ⟨_, rfl⟩
        go_loopw [1, 6] (fun s i wr => ∃ m : Nat, m ≤ 3 ∧ i = .int .i64 m ∧ s = .int .i64 (k0 + (k * 3 + m : Nat)) ∧ Hid (w.grownBy wr (some g) ∧ ∃ cur, Row wr g 99 cur ∧ n * 3 ≤ cur.size ∧ ∀ j, j < k * 3 + m → cur[j]? = some (.int .i64 (k0 + j)))) (fun _ i _ => 3 - (intOf i).toNat)
        case atStart => exact ⟨0, by omega, rfl, rfl, HC⟩
        case round =>
          obtain ⟨m, hm, rfl, rfl, HC⟩ := hrel
          by_cases hlt2 : m < 3
          · obtain ⟨hb, cur, hR, hcs, hat⟩ := HC.out
            obtain ⟨u0, q0⟩ := hR.cellAt (i := k * 3 + m) (by omega)
            have f0 := hR.frozen (k * 3 + m)
            have HB := Lib.hid hb; have HR := Lib.hid hR; have HCS := Lib.hid hcs; have HAT := Lib.hid hat
            clear hb hR hcs hat HC
            go_wp2
            go_roundw
            case rel =>
              refine ⟨m + 1, by omega, by go_num, by simp; omega, grown_set HB.out _ _, _, HR.out.set _ _, by simpa using HCS.out, fun j hj => ?_⟩
              rw [Array.getElem?_setIfInBounds]
              by_cases hjk : k * 3 + m = j
              · subst hjk
                rw [if_pos rfl, if_pos (by have := HCS.out; omega)]
                first | rfl | simp
              · rw [if_neg hjk]; exact HAT.out j (by omega)
            case measure => simp [intOf]; omega
          · obtain rfl : m = 3 := by omega
            go_wp2
            go_roundw
            case rel => exact ⟨k + 1, by omega, by go_num, by simp; omega, HC.out.1, HC.out.2.elim fun cur h => ⟨cur, h.1, h.2.1, fun j hj => h.2.2 j (by omega)⟩⟩
            case measure => simp [intOf]; omega
      · obtain rfl : k = n := by omega
        go_wp2
        go_ret
        obtain ⟨hb, cur, hR, hcs, hat⟩ := HC.out
        exact ⟨ret_int (by simp), .inr ⟨g, cur, rfl, hR, hcs, hat⟩, hb⟩

theorem heldBlockS_any (A : Option Addr) (n c : Nat) (k0 : Int) (w : World) (hA : Mk w 99 A (n * 3) k0) (hn : n ≤ 268435456) (h0 : 0 ≤ k0) (h1 : k0 ≤ 1073741824) :
    Calls Try.prog 90 #[.slice A n c, .int .i64 k0] w fun e w' => e = .returned (.int .i64 (k0 + n * 3)) ∧ w = w' := by
  rcases hA with hz | ⟨g, cur, rfl, hR, hm, hc⟩
  · obtain rfl : n = 0 := by omega
    clear hz
    go_enter Try.func90, Try.ntmps90
    go_wp2
    go_rounds 1
    go_ret
    exact ⟨ret_int (by simp), rfl⟩
  · have HR := Lib.hid hR; have HC := Lib.hid hc; clear hR hc
    go_enter Try.func90, Try.ntmps90
    go_wp2
    go_loop [1, 5] (fun s i => ∃ k : Nat, k ≤ n ∧ i = .int .i64 k ∧ s = .int .i64 (k0 + (k * 3 : Nat))) (fun _ i => n - (intOf i).toNat)
    case atStart => exact ⟨0, by omega, rfl, by simp⟩
    case round =>
      obtain ⟨k, hk, rfl, rfl⟩ := hrel
      by_cases hlt : k < n
      · go_wp2
        go_loop [1, 6] (fun s i => ∃ m : Nat, m ≤ 3 ∧ i = .int .i64 m ∧ s = .int .i64 (k0 + (k * 3 + m : Nat))) (fun _ i => 3 - (intOf i).toNat)
        case atStart => exact ⟨0, by omega, rfl, rfl⟩
        case round =>
          obtain ⟨m, hm', rfl, rfl⟩ := hrel
          by_cases hlt2 : m < 3
          · have q0 := (HR.out.cell (k * 3 + m)).trans (HC.out (k * 3 + m) (by omega))
            go_wp2
            go_round
            case rel => exact ⟨m + 1, by omega, by go_num, by simp; omega⟩
            case measure => simp [intOf]; omega
          · obtain rfl : m = 3 := by omega
            go_wp2
            go_round
            case rel => exact ⟨k + 1, by omega, by go_num, by simp; omega⟩
            case measure => simp [intOf]; omega
      · obtain rfl : k = n := by omega
        go_wp2
        go_ret
        exact ⟨ret_int (by simp), rfl⟩

theorem markSystem_any (v : Int) (A : Option Addr) (n c : Nat) (k0 : Int) (w : World) (hA : Wr w 99 A (n * 3)) (hn : n ≤ 268435456) (h0 : 0 ≤ k0) (h1 : k0 ≤ 1073741824) :
    Calls Try.prog 31 #[.agg #[.int .i64 v, .slice A n c], .int .i64 k0] w fun e w' => e = .returned (.int .i64 (k0 + n * 3)) ∧ Mk w' 99 A (n * 3) k0 ∧ w.grownBy w' (A.map Addr.block) := by
  have HA := Lib.hid hA; clear hA
  go_enter Try.func31, Try.ntmps31
  go_wp2_with (go_at_call 74; refine (markBlockS_any A n c k0 _ (HA.out.below (below_alloc _ _)) hn h0 h1).mono ?_; rintro e w1 ⟨rfl, hm, hg⟩)
  have HM := Lib.hid hm; have HG := Lib.hid hg; clear hm hg
  go_ret
  exact ⟨ret_int rfl, HM.out, grown_trans (grown_below (below_alloc _ _) _) HG.out⟩

theorem heldSystem_any (v : Int) (A : Option Addr) (n c : Nat) (k0 : Int) (w : World) (hA : Mk w 99 A (n * 3) k0) (hn : n ≤ 268435456) (h0 : 0 ≤ k0) (h1 : k0 ≤ 1073741824) :
    Calls Try.prog 46 #[.agg #[.int .i64 v, .slice A n c], .int .i64 k0] w fun e w' => e = .returned (.int .i64 (k0 + n * 3)) ∧ Below w.heap.size w w' := by
  have HA := Lib.hid hA; clear hA
  go_enter Try.func46, Try.ntmps46
  go_wp2_with (go_at_call 90; refine (heldBlockS_any A n c k0 _ (HA.out.below (below_alloc _ _)) hn h0 h1).mono ?_; rintro e w1 ⟨rfl, rfl⟩)
  go_ret
  exact ⟨ret_int rfl, below_alloc _ _⟩

end Go.Proofs.Ytbknpflbafjblaa

/- What a law's proof says of results that the call has made; conditions: stated in each. -/
namespace Go.Proofs.Ytbknpflbafjblaa
open Go.RowKit Go.ChangeShapes Go.WideShapes

theorem Own.il {w : World} {base n c : Nat} {t : TypeId} {A : Option Addr} {ns : List Int} (h : Own w base t 1 (.slice A n c) ns.length (ns.map (Value.int .i64))) : Il w A ns := by
  rcases h.2 with ⟨_, hn⟩ | ⟨g, cap, cur, hv, _, hg, hnc, _, hcs, htk⟩
  · exact .inl (by simpa using hn)
  · simp only [Value.slice.injEq] at hv
    obtain ⟨rfl, _, _⟩ := hv
    refine Il.row (t := t) (cur := cur) hg fun k hk => ?_
    have h1 : (cur.toList.take (ns.length * 1))[k]? = (ns.map (Value.int .i64))[k]? := by rw [htk]
    rw [List.getElem?_take_of_lt (by omega), List.getElem?_map] at h1
    rw [← Array.getElem?_toList, h1]
    simp [nthI, hk]
/-- the cells of blocks -/
def cells3 (xs : List Blk) : List Value := xs.flatMap fun b => [.int .i64 b.1, .int .i64 b.2.1, .int .i64 b.2.2]
theorem cells3_at : ∀ (xs : List Blk) (k : Nat), k < xs.length → (cells3 xs)[k * 3]? = some (.int .i64 (nth xs k).1) ∧ (cells3 xs)[k * 3 + 1]? = some (.int .i64 (nth xs k).2.1) ∧ (cells3 xs)[k * 3 + 2]? = some (.int .i64 (nth xs k).2.2) := by
  intro xs
  induction xs with
  | nil => intro k hk; simp at hk
  | cons b xs ih =>
    intro k hk
    cases k with
    | zero => simp [cells3, nth]
    | succ k =>
      have := ih k (by simpa using hk)
      have e0 : (k + 1) * 3 = k * 3 + 3 := by omega
      have e : ∀ j, (cells3 (b :: xs))[j + 3]? = (cells3 xs)[j]? := fun j => by simp [cells3]
      have e1 : (k + 1) * 3 + 1 = (k * 3 + 1) + 3 := by omega
      have e2 : (k + 1) * 3 + 2 = (k * 3 + 2) + 3 := by omega
      rw [e1, e2, e0, e, e, e]
      simpa [nth] using this
theorem Own.bl {w : World} {base n c : Nat} {t : TypeId} {A : Option Addr} {xs : List Blk} (h : Own w base t 3 (.slice A n c) xs.length (cells3 xs)) : Bl w A xs := by
  rcases h.2 with ⟨_, hn⟩ | ⟨g, cap, cur, hv, _, hg, hnc, _, hcs, htk⟩
  · exact .inl (by simpa using hn)
  · simp only [Value.slice.injEq] at hv
    obtain ⟨rfl, _, _⟩ := hv
    have key : ∀ j, j < xs.length * 3 → cur[j]? = (cells3 xs)[j]? := fun j hj => by
      rw [← htk, List.getElem?_take_of_lt hj, Array.getElem?_toList]
    refine Bl.row (t := t) (cur := cur) hg fun k hk => ?_
    have := cells3_at xs k hk
    exact ⟨(key _ (by omega)).trans this.1, (key _ (by omega)).trans this.2.1, (key _ (by omega)).trans this.2.2⟩
theorem Own.wr {w : World} {base n size c : Nat} {t : TypeId} {A : Option Addr} {xs : List Value} (h : Own w base t size (.slice A n c) n xs) : Wr w t A (n * size) := Wr.own h
theorem Own.wr1 {w : World} {base n c : Nat} {t : TypeId} {A : Option Addr} {xs : List Value} (h : Own w base t 1 (.slice A n c) n xs) : Wr w t A n := by
  have := Wr.own h; rwa [Nat.mul_one] at this
theorem Own.blk {w : World} {base n size c : Nat} {t : TypeId} {A : Option Addr} {xs : List Value} (h : Own w base t size (.slice A n c) n xs) : ∀ k, A.map Addr.block = some k → base ≤ k := by
  intro k hk
  refine own_block h k ?_
  cases A with
  | none => simp at hk
  | some a => simpa [Value.ownBlock] using hk
/-- A row keeps while another block is written. -/
theorem Own.grown {w w' : World} {base n size c : Nat} {t : TypeId} {A B : Option Addr} {xs : List Value} (h : Own w base t size (.slice A n c) n xs) (hg : w.grownBy w' (B.map Addr.block)) (hB : ∀ k, B.map Addr.block = some k → k < base) : Own w' base t size (.slice A n c) n xs := by
  refine ⟨h.1, ?_⟩
  rcases h.2 with h' | ⟨g, cap, cur, hv, hge, hR, r⟩
  · exact .inl h'
  · refine .inr ⟨g, cap, cur, hv, hge, ?_, r⟩
    refine (hg.block g (Row.lt hR) ?_).trans hR
    intro he
    have := hB g he.symm
    omega
theorem Since.grown {w W wr : World} {B : Option Addr} (h : Since w W) (hg : W.grownBy wr (B.map Addr.block)) (hr : ∀ k, B.map Addr.block = some k → w.heap.size ≤ k) : Since w wr := below_grown h hg hr
theorem blk_ge {g n : Nat} (h : n ≤ g) : ∀ k, (some (⟨g, 0, none⟩ : Addr)).map Addr.block = some k → n ≤ k := by
  intro k hk; simp only [Option.map_some, Option.some.injEq] at hk; omega
theorem blk_lt {g n : Nat} (h : g < n) : ∀ k, (some (⟨g, 0, none⟩ : Addr)).map Addr.block = some k → k < n := by
  intro k hk; simp only [Option.map_some, Option.some.injEq] at hk; omega
theorem blk_le {A : Option Addr} {m n : Nat} (h : ∀ k, A.map Addr.block = some k → m ≤ k) (hn : n ≤ m) : ∀ k, A.map Addr.block = some k → n ≤ k := fun k hk => Nat.le_trans hn (h k hk)

set_option maxRecDepth 100000 in
theorem open_ints1 {H : Type} {enc : TypeId × Value → H} {W : World} {b0 : Nat} {v : Value} {d : DataW H} {ps : List MemPlace} (hv : Value.okWide Try.prog W .any b0 42 v) (h : DataW.Trod enc Try.prog W 0 (fun _ => true) true 42 v d ps) :
    ∃ A c xs, v = .slice A xs.length c ∧ Il W A xs ∧ (∀ x ∈ xs, -9223372036854775808 ≤ x ∧ x ≤ 9223372036854775807) ∧ xs.length ≤ 9223372036854775807 := by
  obtain ⟨a, len, cap, rfl⟩ := okWide_slice Try.underlying42 hv
  obtain ⟨fuel, hf⟩ := h
  simp only [Value.cells] at hf
  exact open_nums hf

end Go.Proofs.Ytbknpflbafjblaa
