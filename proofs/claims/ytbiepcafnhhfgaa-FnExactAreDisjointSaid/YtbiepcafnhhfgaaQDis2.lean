/- Contracts for AreDisjoint and IsClass, of the reference and of the program; conditions: stated in each. -/
import Derived.Test.YtbiepcafnhhfgaaQDis
namespace Go.Proofs.Ytbiepcafnhhfgaa
open Go.RowKit
set_option maxHeartbeats 400000
set_option linter.unusedSimpArgs false
set_option linter.unusedVariables false

theorem apart_step {xs : List Blk} {ls : List Int} {k : Nat} (h : apart xs ls k) (h' : ∀ j, j < k → meetB (blkAt xs ls k) (blkAt xs ls j) = false) : apart xs ls (k + 1) := by
  intro i hi j hj
  by_cases hik : i < k
  · exact h i hik j hj
  · obtain rfl : i = k := by omega
    exact h' j hj

theorem l05Disjoint_any (v : Int) (A : Option Addr) (c : Nat) (xs : List Blk) (B : Option Addr) (d : Nat) (ls : List Int) (w : World) (hA : Bl w A xs) (hl : xs.length ≤ 1048576) (hB : Il w B ls) (hlb : ls.length ≤ 1048576)
    (hv : v ≤ 15) (ha : areB v xs) (hr : risesI ls xs.length) :
    Calls Try.prog 70 #[.agg #[.int .i64 v, .slice A xs.length c], .slice B ls.length d] w fun e w' => ∃ p : Int, e = .returned (.tuple #[.bool (apartB xs ls), .int .i64 p]) ∧ (apartB xs ls = true → p = (uni xs ls ls.length : Nat)) ∧ Below w.heap.size w w' := by
  have HA := Lib.hid (hA.below (below_alloc w (.cells #[.int .i64 v, .slice A xs.length c] 30)))
  have HB := Lib.hid (hB.below (below_alloc w (.cells #[.int .i64 v, .slice A xs.length c] 30)))
  have HR := Lib.hid (Row.box w 30 (.int .i64 v) (.slice A xs.length c))
  have HW := Lib.hid (below_alloc w (.cells #[.int .i64 v, .slice A xs.length c] 30))
  have HAR := Lib.hid ha; have HRI := Lib.hid hr
  have HV := pow15 hv
  clear hA hB ha hr
  go_enter Try.func70, Try.ntmps70
  go_wp2
  generalize w.alloc _ = W at *
  go_loopw [6, 7] (fun p i wr => ∃ k : Nat, k ≤ ls.length ∧ i = .int .i64 k ∧ p = .int .i64 (uni xs ls k : Nat) ∧ Below W.heap.size W wr ∧ Hid (apart xs ls k)) (fun _ i _ => ls.length - (intOf i).toNat)
  case atStart => exact ⟨0, by omega, rfl, rfl, Below.refl _ _, fun i hi => by omega⟩
  case round =>
    obtain ⟨k, hk, rfl, rfl, hb, HC⟩ := hrel
    obtain ⟨c0, c1⟩ := (HR.out.below hb).c2
    have hsz := (HR.out.below hb).lt
    by_cases hlt : k < ls.length
    · obtain ⟨b1, o1, hA1, hb1, p0⟩ := (HB.out.below hb).at_ hlt
      subst hA1
      have hrk := (HRI.out k hlt).1
      obtain ⟨I, hI⟩ := Int.eq_ofNat_of_zero_le hrk.1
      have hIx : I < xs.length := by omega
      have hbk : blkAt xs ls k = nth xs I := by unfold blkAt; rw [hI]; rfl
      rw [hI] at p0
      clear hrk hI
      obtain ⟨b2, o2, hA2, hb2, q0, q1, q2⟩ := (HA.out.below hb).at_ hIx
      subst hA2
      have hg := (HAR.out I hIx).1
      have hml := maskB_lt hg
      have hul := uni_lt HAR.out HRI.out k (by omega)
      have hg15 : goodB 15 (nth xs I) = true := good_mono hg hv
      have hum := uni_meet HAR.out HRI.out hlt
      rw [hbk] at hum
      have HU : Hid (uni xs ls (k + 1) = uni xs ls k ||| maskB (nth xs I)) := by unfold Hid; rw [uni, hbk]
      have hor := bits_or_nat (uni xs ls k) (maskB (nth xs I)) (by omega) (by omega)
      have hand := bits_and_nat (uni xs ls k) (maskB (nth xs I)) (by omega) (by omega)
      have HG := Lib.hid hg15; have HUM := Lib.hid hum; have HUL := Lib.hid hul; have HML := Lib.hid hml; have HBK := Lib.hid hbk
      clear hg hml hul hg15 hum hbk
      by_cases hz : uni xs ls k &&& maskB (nth xs I) = 0
      · rw [hz] at hand
        have HZ := Lib.hid hz; clear hz
        go_wp2
        refine wp_region_ge_lit (by kernel_rfl) (by kernel_rfl) ?_; (repeat (go_big_quiet_step ((go_at_call 103; exact ge_call (l05Bits_any _ _ HG.out))))); refine wpQuiet_nil ?_
        rintro w1 ⟨x, rfl⟩
        go_wp2
        go_roundw
        case rel =>
          refine ⟨k + 1, by omega, by go_num, val_int (by rw [HU.out]), below_up hb (ge_below _ _), apart_step HC.out ?_⟩
          rw [HBK.out]; exact HUM.out.1 HZ.out
        case measure => simp [intOf]; omega
      · have hne : (bits .and .i64 (uni xs ls k : Int) (maskB (nth xs I) : Int) != 0) = true := by rw [hand, bne_iff_ne]; exact_mod_cast hz
        have hne' : (bits .and .i64 (uni xs ls k : Int) (maskB (nth xs I) : Int) == 0) = false := by rw [hand, beq_eq_false_iff_ne]; exact_mod_cast hz
        have HZ := Lib.hid hz; clear hz hand
        go_wp2
        refine wp_region_ge_lit (by kernel_rfl) (by kernel_rfl) ?_; (repeat (go_big_quiet_step ((go_at_call 103; exact ge_call (l05Bits_any _ _ HG.out))))); refine wpQuiet_nil ?_
        rintro w1 ⟨x, rfl⟩
        go_wp2
        go_ret2
        have hf : apartB xs ls = false := apartB_false fun h => HZ.out (HUM.out.2 fun j hj => by have := h k hlt j hj; rwa [HBK.out] at this)
        exact ⟨(uni xs ls k : Nat), by rw [hf]; rfl, (fun h => by rw [hf] at h; cases h), below_up HW.out (below_up hb (ge_below _ _))⟩
    · obtain rfl : k = ls.length := by omega
      go_wp2
      go_ret2
      exact ⟨(uni xs ls ls.length : Nat), by rw [apartB_true HC.out]; rfl, (fun _ => rfl), below_up HW.out hb⟩

theorem meets_is {a b : Blk} {r : Bool} (h : meetB a b = r) (w : World) :
    Calls Try.prog 60 #[.agg #[.int .i64 a.1, .int .i64 a.2.1, .int .i64 a.2.2], .agg #[.int .i64 b.1, .int .i64 b.2.1, .int .i64 b.2.2]] w fun e w' => e = .returned (.bool r) ∧ Below w.heap.size w w' := h ▸ meets_any a b w
theorem areDisjoint_any (v : Int) (A : Option Addr) (c : Nat) (xs : List Blk) (B : Option Addr) (d : Nat) (ls : List Int) (w : World) (hA : Bl w A xs) (hl : xs.length ≤ 1048576) (hB : Il w B ls) (hlb : ls.length ≤ 1048576)
    (hd : ls.length ≤ d) (hr : risesI ls xs.length) :
    Calls Try.prog 72 #[.agg #[.int .i64 v, .slice A xs.length c], .slice B ls.length d] w fun e w' => e = .returned (.bool (apartB xs ls)) ∧ Below w.heap.size w w' := by
  have HA := Lib.hid (hA.below (below_alloc w (.cells #[.int .i64 v, .slice A xs.length c] 30)))
  have HB := Lib.hid (hB.below (below_alloc w (.cells #[.int .i64 v, .slice A xs.length c] 30)))
  have HR := Lib.hid (Row.box w 30 (.int .i64 v) (.slice A xs.length c))
  have HW := Lib.hid (below_alloc w (.cells #[.int .i64 v, .slice A xs.length c] 30))
  have HRI := Lib.hid hr
  clear hA hB hr
  go_enter Try.func72, Try.ntmps72
  go_wp2
  generalize w.alloc _ = W at *
  go_loopw [11] (fun i wr => ∃ k : Nat, k ≤ ls.length ∧ i = .int .i64 k ∧ Below W.heap.size W wr ∧ Hid (apart xs ls k)) (fun i _ => ls.length - (intOf i).toNat)
  case atStart => exact ⟨0, by omega, rfl, Below.refl _ _, fun i hi => by omega⟩
  case round =>
    obtain ⟨k, hk, rfl, hb, HC⟩ := hrel
    by_cases hlt : k < ls.length
    · obtain ⟨b1, o1, hA1, hb1, p0⟩ := (HB.out.below hb).at_ hlt
      subst hA1
      have hrk := (HRI.out k hlt).1
      obtain ⟨I, hI⟩ := Int.eq_ofNat_of_zero_le hrk.1
      have hIx : I < xs.length := by omega
      have hbk : blkAt xs ls k = nth xs I := by unfold blkAt; rw [hI]; rfl
      rw [hI] at p0
      have HBK := Lib.hid hbk
      clear hrk hI hbk
      go_wp2
      obtain ⟨wo, rfl⟩ : ∃ wo : World, wo = wr := ⟨_, rfl⟩
      go_loopw [20] (fun i wr => ∃ j : Nat, j ≤ k ∧ i = .int .i64 j ∧ Below W.heap.size W wr ∧ Hid (∀ i, i < j → meetB (blkAt xs ls k) (blkAt xs ls i) = false)) (fun i _ => k - (intOf i).toNat)
      case atStart => exact ⟨0, by omega, rfl, hb, fun i hi => by omega⟩
      case round =>
        obtain ⟨j, hj, rfl, hb, HD⟩ := hrel
        obtain ⟨c0, c1⟩ := (HR.out.below hb).c2
        have hsz := (HR.out.below hb).lt
        by_cases hlt2 : j < k
        · obtain ⟨b2, o2, hA2, hb2, q0⟩ := (HB.out.below hb).at_ (k := j) (by omega)
          simp only [Option.some.injEq, Addr.mk.injEq] at hA2
          obtain ⟨rfl, rfl, -⟩ := hA2
          have hrj := (HRI.out j (by omega)).1
          obtain ⟨J, hJ⟩ := Int.eq_ofNat_of_zero_le hrj.1
          have hJx : J < xs.length := by omega
          have hbj : blkAt xs ls j = nth xs J := by unfold blkAt; rw [hJ]; rfl
          rw [hJ] at q0
          have HBJ := Lib.hid hbj
          clear hrj hJ hbj
          obtain ⟨b3, o3, hA3, hb3, r0, r1, r2⟩ := (HA.out.below hb).at_ hIx
          subst hA3
          obtain ⟨b4, o4, hA4, hb4, s0, s1, s2⟩ := (HA.out.below hb).at_ hJx
          simp only [Option.some.injEq, Addr.mk.injEq] at hA4
          obtain ⟨rfl, rfl, -⟩ := hA4
          cases hm : meetB (nth xs I) (nth xs J)
          · go_wp2
            refine wp_region_ge_lit (by kernel_rfl) (by kernel_rfl) ?_; (repeat (go_big_quiet_step ((go_at_call 60; exact ge_call (meets_is hm _))))); refine wpQuiet_nil ?_
            rintro w1 ⟨x, rfl⟩
            go_wp2
            go_roundw
            case rel =>
              refine ⟨j + 1, by omega, by go_num, below_up hb (ge_below _ _), fun i hi => ?_⟩
              by_cases hij : i < j
              · exact HD.out i hij
              · obtain rfl : i = j := by omega
                rw [HBK.out, HBJ.out]; exact hm
            case measure => simp [intOf]; omega
          · go_wp2
            refine wp_region_ge_lit (by kernel_rfl) (by kernel_rfl) ?_; (repeat (go_big_quiet_step ((go_at_call 60; exact ge_call (meets_is hm _))))); refine wpQuiet_nil ?_
            rintro w1 ⟨x, rfl⟩
            go_wp2
            go_ret
            refine ⟨ret_bool ?_, below_up HW.out (below_up hb (ge_below _ _))⟩
            rw [apartB_false]
            intro h
            have := h k hlt j hlt2
            rw [HBK.out, HBJ.out, hm] at this
            cases this
        · obtain rfl : j = k := by omega
          go_wp2
          go_roundw
          case rel => exact ⟨j + 1, by omega, by go_num, hb, apart_step HC.out HD.out⟩
          case measure => simp [intOf]; omega
    · obtain rfl : k = ls.length := by omega
      go_wp2
      go_ret
      exact ⟨ret_bool (apartB_true HC.out).symm, below_up HW.out hb⟩

/-- AreDisjoint's answer -/
noncomputable def disR (v : Int) (xs : List Blk) (ls : List Int) : Bool × Int := if setCode v xs ls ≠ 0 then (false, setCode v xs ls) else (apartB xs ls, 0)
/-- IsClass's answer -/
noncomputable def classR (v : Int) (xs : List Blk) (ls : List Int) : Bool × Int := if setCode v xs ls ≠ 0 then (false, setCode v xs ls) else (decide (3 * (ls.length : Int) = v) && apartB xs ls, 0)

theorem specDis_any (v : Int) (A : Option Addr) (c : Nat) (xs : List Blk) (B : Option Addr) (d : Nat) (ls : List Int) (w : World) (hA : Bl w A xs) (hl : xs.length ≤ 1048576) (hB : Il w B ls) (hlb : ls.length ≤ 1048576) :
    Calls Try.prog 28 #[.agg #[.int .i64 v, .slice A xs.length c], .slice B ls.length d] w fun e w' => e = .returned (.tuple #[.bool (disR v xs ls).1, .int .i64 (disR v xs ls).2]) ∧ Below w.heap.size w w' := by
  have HB := Lib.hid hB; clear hB
  have HN : Hid (disR v xs ls = if setCode v xs ls ≠ 0 then (false, setCode v xs ls) else (apartB xs ls, 0)) := rfl
  generalize disR v xs ls = R at *
  by_cases h1 : setCode v xs ls = 0
  · obtain ⟨hs, hr⟩ := setCode_zero h1
    have H := Lib.hid h1; have HS := Lib.hid (isSysB_iff.1 hs); have HRI := Lib.hid (risesB_iff.1 hr)
    clear h1 hs hr
    have HA := Lib.hid hA; clear hA; have HR := Lib.hid (Row.box w 30 (.int .i64 v) (.slice A xs.length c)); have HW := Lib.hid (Since.refl w); go_enter Try.func28, Try.ntmps28; go_wp2_with fail; replace HA := Lib.hid (HA.out.below (below_alloc _ (.cells #[.int .i64 v, .slice A xs.length c] 30))); replace HW := Lib.hid (HW.out.below (below_alloc _ (.cells #[.int .i64 v, .slice A xs.length c] 30))); replace HB := Lib.hid (HB.out.below (below_alloc _ (.cells #[.int .i64 v, .slice A xs.length c] 30)))
    refine (l05Set_any v A c xs B d ls _ HA.out hl HB.out hlb).mono ?_; rw [H.out]; rintro e w_ ⟨rfl, hb⟩; replace HA := Lib.hid (HA.out.below hb); replace HB := Lib.hid (HB.out.below hb); replace HW := Lib.hid (HW.out.below hb); replace HR := Lib.hid (HR.out.below hb); clear hb; (try clear c0 c1); obtain ⟨c0, c1⟩ := HR.out.c2
    go_wp2_with fail
    refine (l05Disjoint_any v A c xs B d ls _ HA.out hl HB.out hlb HS.out.1.2 HS.out.2.2.1 HRI.out).mono ?_
    rintro e w_ ⟨p, rfl, _, hb⟩
    replace HW := Lib.hid (HW.out.below hb); clear hb
    go_wp2
    go_ret2
    exact ⟨by rw [HN.out, if_neg (by simp [H.out])]; rfl, HW.out⟩
  · have h1' : (setCode v xs ls != 0) = true := by simpa using h1
    have h1'' : (setCode v xs ls == 0) = false := by simpa using h1
    have H := Lib.hid h1; clear h1
    have HA := Lib.hid hA; clear hA; have HR := Lib.hid (Row.box w 30 (.int .i64 v) (.slice A xs.length c)); have HW := Lib.hid (Since.refl w); go_enter Try.func28, Try.ntmps28; go_wp2_with fail; replace HA := Lib.hid (HA.out.below (below_alloc _ (.cells #[.int .i64 v, .slice A xs.length c] 30))); replace HW := Lib.hid (HW.out.below (below_alloc _ (.cells #[.int .i64 v, .slice A xs.length c] 30))); replace HB := Lib.hid (HB.out.below (below_alloc _ (.cells #[.int .i64 v, .slice A xs.length c] 30)))
    refine (l05Set_any v A c xs B d ls _ HA.out hl HB.out hlb).mono ?_; rintro e w_ ⟨rfl, hb⟩; replace HW := Lib.hid (HW.out.below hb); clear hb
    go_wp2
    go_ret2
    exact ⟨by rw [HN.out, if_pos H.out]; rfl, HW.out⟩

theorem implDis_any (v : Int) (A : Option Addr) (c : Nat) (xs : List Blk) (B : Option Addr) (d : Nat) (ls : List Int) (w : World) (hA : Bl w A xs) (hl : xs.length ≤ 1048576) (hB : Il w B ls) (hlb : ls.length ≤ 1048576) (hd : ls.length ≤ d) :
    Calls Try.prog 30 #[.agg #[.int .i64 v, .slice A xs.length c], .slice B ls.length d] w fun e w' => e = .returned (.tuple #[.bool (disR v xs ls).1, .int .i64 (disR v xs ls).2]) ∧ Below w.heap.size w w' := by
  have HB := Lib.hid hB; clear hB
  cases hs : isSysB v xs
  · have HN : Hid (disR v xs ls = (false, 1)) := by unfold Hid disR setCode; simp [hs]
    generalize disR v xs ls = R at *
    have HA := Lib.hid hA; clear hA; have HR := Lib.hid (Row.box w 30 (.int .i64 v) (.slice A xs.length c)); have HW := Lib.hid (Since.refl w); go_enter Try.func30, Try.ntmps30; go_wp2_with fail; replace HA := Lib.hid (HA.out.below (below_alloc _ (.cells #[.int .i64 v, .slice A xs.length c] 30))); replace HW := Lib.hid (HW.out.below (below_alloc _ (.cells #[.int .i64 v, .slice A xs.length c] 30))); replace HB := Lib.hid (HB.out.below (below_alloc _ (.cells #[.int .i64 v, .slice A xs.length c] 30)))
    refine (IsSystem_any v A c xs _ HA.out hl).mono ?_; rw [hs]; rintro e w_ ⟨rfl, hb⟩; replace HW := Lib.hid (HW.out.below hb); clear hb
    go_wp2
    go_ret2
    exact ⟨by rw [HN.out]; rfl, HW.out⟩
  · cases hr : risesB ls xs.length
    · have HN : Hid (disR v xs ls = (false, 2)) := by unfold Hid disR setCode; simp [hs, hr]
      generalize disR v xs ls = R at *
      have HA := Lib.hid hA; clear hA; have HR := Lib.hid (Row.box w 30 (.int .i64 v) (.slice A xs.length c)); have HW := Lib.hid (Since.refl w); go_enter Try.func30, Try.ntmps30; go_wp2_with fail; replace HA := Lib.hid (HA.out.below (below_alloc _ (.cells #[.int .i64 v, .slice A xs.length c] 30))); replace HW := Lib.hid (HW.out.below (below_alloc _ (.cells #[.int .i64 v, .slice A xs.length c] 30))); replace HB := Lib.hid (HB.out.below (below_alloc _ (.cells #[.int .i64 v, .slice A xs.length c] 30)))
      refine (IsSystem_any v A c xs _ HA.out hl).mono ?_; rw [hs]; rintro e w_ ⟨rfl, hb⟩; replace HA := Lib.hid (HA.out.below hb); replace HB := Lib.hid (HB.out.below hb); replace HW := Lib.hid (HW.out.below hb); replace HR := Lib.hid (HR.out.below hb); clear hb; (try clear c0 c1); obtain ⟨c0, c1⟩ := HR.out.c2
      go_wp2_with fail
      refine (areNumbers_any v A c xs B d ls _ hl HB.out hlb).mono ?_; rw [hr]; rintro e w_ ⟨rfl, hb⟩; replace HW := Lib.hid (HW.out.below hb); clear hb
      go_wp2
      go_ret2
      exact ⟨by rw [HN.out]; rfl, HW.out⟩
    · have HN : Hid (disR v xs ls = (apartB xs ls, 0)) := by unfold Hid disR setCode; simp [hs, hr]
      have HRI := Lib.hid (risesB_iff.1 hr)
      generalize disR v xs ls = R at *
      have HA := Lib.hid hA; clear hA; have HR := Lib.hid (Row.box w 30 (.int .i64 v) (.slice A xs.length c)); have HW := Lib.hid (Since.refl w); go_enter Try.func30, Try.ntmps30; go_wp2_with fail; replace HA := Lib.hid (HA.out.below (below_alloc _ (.cells #[.int .i64 v, .slice A xs.length c] 30))); replace HW := Lib.hid (HW.out.below (below_alloc _ (.cells #[.int .i64 v, .slice A xs.length c] 30))); replace HB := Lib.hid (HB.out.below (below_alloc _ (.cells #[.int .i64 v, .slice A xs.length c] 30)))
      refine (IsSystem_any v A c xs _ HA.out hl).mono ?_; rw [hs]; rintro e w_ ⟨rfl, hb⟩; replace HA := Lib.hid (HA.out.below hb); replace HB := Lib.hid (HB.out.below hb); replace HW := Lib.hid (HW.out.below hb); replace HR := Lib.hid (HR.out.below hb); clear hb; (try clear c0 c1); obtain ⟨c0, c1⟩ := HR.out.c2
      go_wp2_with fail
      refine (areNumbers_any v A c xs B d ls _ hl HB.out hlb).mono ?_; rw [hr]; rintro e w_ ⟨rfl, hb⟩; replace HA := Lib.hid (HA.out.below hb); replace HB := Lib.hid (HB.out.below hb); replace HW := Lib.hid (HW.out.below hb); replace HR := Lib.hid (HR.out.below hb); clear hb; (try clear c0 c1); obtain ⟨c0, c1⟩ := HR.out.c2
      go_wp2_with fail
      refine (areDisjoint_any v A c xs B d ls _ HA.out hl HB.out hlb hd HRI.out).mono ?_; rintro e w_ ⟨rfl, hb⟩; replace HW := Lib.hid (HW.out.below hb); clear hb
      go_wp2
      go_ret2
      exact ⟨by rw [HN.out]; rfl, HW.out⟩

theorem l05Class_any (v : Int) (A : Option Addr) (c : Nat) (xs : List Blk) (B : Option Addr) (d : Nat) (ls : List Int) (w : World) (hA : Bl w A xs) (hl : xs.length ≤ 1048576) (hB : Il w B ls) (hlb : ls.length ≤ 1048576)
    (hs : isSys v xs) (hr : risesI ls xs.length) :
    Calls Try.prog 80 #[.agg #[.int .i64 v, .slice A xs.length c], .slice B ls.length d] w fun e w' => e = .returned (.bool (decide (3 * (ls.length : Int) = v) && apartB xs ls)) ∧ Below w.heap.size w w' := by
  have HB := Lib.hid hB; clear hB
  have HS := Lib.hid hs; have HRI := Lib.hid hr
  have hv3 := hs.1.1; have hv15 := hs.1.2
  have hp15 := pow15 hs.1.2
  clear hs hr
  cases ha : apartB xs ls
  · have HA := Lib.hid hA; clear hA; have HR := Lib.hid (Row.box w 30 (.int .i64 v) (.slice A xs.length c)); have HW := Lib.hid (Since.refl w); go_enter Try.func80, Try.ntmps80; go_wp2_with fail; replace HA := Lib.hid (HA.out.below (below_alloc _ (.cells #[.int .i64 v, .slice A xs.length c] 30))); replace HW := Lib.hid (HW.out.below (below_alloc _ (.cells #[.int .i64 v, .slice A xs.length c] 30))); replace HB := Lib.hid (HB.out.below (below_alloc _ (.cells #[.int .i64 v, .slice A xs.length c] 30)))
    refine (l05Disjoint_any v A c xs B d ls _ HA.out hl HB.out hlb HS.out.1.2 HS.out.2.2.1 HRI.out).mono ?_
    rw [ha]
    rintro e w_ ⟨p, rfl, _, hb⟩
    replace HW := Lib.hid (HW.out.below hb); replace HR := Lib.hid (HR.out.below hb); clear hb; (try clear c0 c1); obtain ⟨c0, c1⟩ := HR.out.c2
    go_wp2
    go_ret
    exact ⟨ret_bool (by simp), HW.out⟩
  · have hcl := class_iff (by omega) HS.out.2.2.1 HRI.out (apartB_iff.1 ha)
    have hpos : 0 < 2 ^ v.toNat := Nat.two_pow_pos v.toNat
    have hpe : ((2 : Int) ^ v.toNat) = ((2 ^ v.toNat : Nat) : Int) := by push_cast; rfl
    have hsh : wrap64 ((2 : Int) ^ v.toNat) = ((2 : Int) ^ v.toNat) := by rw [hpe]; generalize 2 ^ v.toNat = a at *; go_unwrap
    have hsu : wrap64 ((2 : Int) ^ v.toNat - 1) = ((2 ^ v.toNat - 1 : Nat) : Int) := by rw [hpe]; generalize 2 ^ v.toNat = a at *; go_unwrap; omega
    have HC := Lib.hid hcl; have HSU := Lib.hid hsu
    clear hcl hpe
    have HA := Lib.hid hA; clear hA; have HR := Lib.hid (Row.box w 30 (.int .i64 v) (.slice A xs.length c)); have HW := Lib.hid (Since.refl w); go_enter Try.func80, Try.ntmps80; go_wp2_with fail; replace HA := Lib.hid (HA.out.below (below_alloc _ (.cells #[.int .i64 v, .slice A xs.length c] 30))); replace HW := Lib.hid (HW.out.below (below_alloc _ (.cells #[.int .i64 v, .slice A xs.length c] 30))); replace HB := Lib.hid (HB.out.below (below_alloc _ (.cells #[.int .i64 v, .slice A xs.length c] 30)))
    refine (l05Disjoint_any v A c xs B d ls _ HA.out hl HB.out hlb HS.out.1.2 HS.out.2.2.1 HRI.out).mono ?_
    rw [ha]
    rintro e w_ ⟨p, rfl, hp, hb⟩
    obtain rfl := hp rfl
    replace HW := Lib.hid (HW.out.below hb); replace HR := Lib.hid (HR.out.below hb); clear hb; (try clear c0 c1); obtain ⟨c0, c1⟩ := HR.out.c2
    go_wp2
    go_ret
    refine ⟨ret_bool ?_, HW.out⟩
    rw [Bool.and_true, Bool.eq_iff_iff, beq_iff_eq, decide_eq_true_eq, ← HC.out, Int.natCast_inj]

theorem isClass_any (v : Int) (A : Option Addr) (c : Nat) (xs : List Blk) (B : Option Addr) (d : Nat) (ls : List Int) (w : World) (hA : Bl w A xs) (hl : xs.length ≤ 1048576) (hB : Il w B ls) (hlb : ls.length ≤ 1048576)
    (hd : ls.length ≤ d) (hr : risesI ls xs.length) :
    Calls Try.prog 81 #[.agg #[.int .i64 v, .slice A xs.length c], .slice B ls.length d] w fun e w' => e = .returned (.bool (decide (3 * (ls.length : Int) = v) && apartB xs ls)) ∧ Below w.heap.size w w' := by
  have HB := Lib.hid (hB.below (below_alloc w (.cells #[.int .i64 v, .slice A xs.length c] 30)))
  have HA := Lib.hid (hA.below (below_alloc w (.cells #[.int .i64 v, .slice A xs.length c] 30)))
  have HW := Lib.hid (below_alloc w (.cells #[.int .i64 v, .slice A xs.length c] 30))
  have HRI := Lib.hid hr
  clear hA hB hr
  by_cases h3 : 3 * (ls.length : Int) = v
  · have h3' : (3 * (ls.length : Int) == v) = true := by simpa using h3
    have H3 := Lib.hid h3; clear h3
    go_enter Try.func81, Try.ntmps81
    go_wp2_with fail
    refine (areDisjoint_any v A c xs B d ls _ HA.out hl HB.out hlb hd HRI.out).mono ?_
    rintro e w_ ⟨rfl, hb⟩
    replace HW := Lib.hid (below_up HW.out hb)
    clear hb
    go_wp2
    go_ret
    exact ⟨ret_bool (by rw [decide_eq_true H3.out, Bool.true_and]), HW.out⟩
  · have h3' : (3 * (ls.length : Int) == v) = false := by simpa using h3
    have H3 := Lib.hid h3; clear h3
    go_enter Try.func81, Try.ntmps81
    go_wp2
    go_ret
    exact ⟨ret_bool (by rw [decide_eq_false H3.out, Bool.false_and]), HW.out⟩

theorem specClass_any (v : Int) (A : Option Addr) (c : Nat) (xs : List Blk) (B : Option Addr) (d : Nat) (ls : List Int) (w : World) (hA : Bl w A xs) (hl : xs.length ≤ 1048576) (hB : Il w B ls) (hlb : ls.length ≤ 1048576) :
    Calls Try.prog 40 #[.agg #[.int .i64 v, .slice A xs.length c], .slice B ls.length d] w fun e w' => e = .returned (.tuple #[.bool (classR v xs ls).1, .int .i64 (classR v xs ls).2]) ∧ Below w.heap.size w w' := by
  have HB := Lib.hid hB; clear hB
  have HN : Hid (classR v xs ls = if setCode v xs ls ≠ 0 then (false, setCode v xs ls) else (decide (3 * (ls.length : Int) = v) && apartB xs ls, 0)) := rfl
  generalize classR v xs ls = R at *
  by_cases h1 : setCode v xs ls = 0
  · obtain ⟨hs, hr⟩ := setCode_zero h1
    have H := Lib.hid h1; have HS := Lib.hid (isSysB_iff.1 hs); have HRI := Lib.hid (risesB_iff.1 hr)
    clear h1 hs hr
    have HA := Lib.hid hA; clear hA; have HR := Lib.hid (Row.box w 30 (.int .i64 v) (.slice A xs.length c)); have HW := Lib.hid (Since.refl w); go_enter Try.func40, Try.ntmps40; go_wp2_with fail; replace HA := Lib.hid (HA.out.below (below_alloc _ (.cells #[.int .i64 v, .slice A xs.length c] 30))); replace HW := Lib.hid (HW.out.below (below_alloc _ (.cells #[.int .i64 v, .slice A xs.length c] 30))); replace HB := Lib.hid (HB.out.below (below_alloc _ (.cells #[.int .i64 v, .slice A xs.length c] 30)))
    refine (l05Set_any v A c xs B d ls _ HA.out hl HB.out hlb).mono ?_; rw [H.out]; rintro e w_ ⟨rfl, hb⟩; replace HA := Lib.hid (HA.out.below hb); replace HB := Lib.hid (HB.out.below hb); replace HW := Lib.hid (HW.out.below hb); replace HR := Lib.hid (HR.out.below hb); clear hb; (try clear c0 c1); obtain ⟨c0, c1⟩ := HR.out.c2
    go_wp2_with fail
    refine (l05Class_any v A c xs B d ls _ HA.out hl HB.out hlb HS.out HRI.out).mono ?_; rintro e w_ ⟨rfl, hb⟩; replace HW := Lib.hid (HW.out.below hb); clear hb
    go_wp2
    go_ret2
    exact ⟨by rw [HN.out, if_neg (by simp [H.out])]; rfl, HW.out⟩
  · have h1' : (setCode v xs ls != 0) = true := by simpa using h1
    have h1'' : (setCode v xs ls == 0) = false := by simpa using h1
    have H := Lib.hid h1; clear h1
    have HA := Lib.hid hA; clear hA; have HR := Lib.hid (Row.box w 30 (.int .i64 v) (.slice A xs.length c)); have HW := Lib.hid (Since.refl w); go_enter Try.func40, Try.ntmps40; go_wp2_with fail; replace HA := Lib.hid (HA.out.below (below_alloc _ (.cells #[.int .i64 v, .slice A xs.length c] 30))); replace HW := Lib.hid (HW.out.below (below_alloc _ (.cells #[.int .i64 v, .slice A xs.length c] 30))); replace HB := Lib.hid (HB.out.below (below_alloc _ (.cells #[.int .i64 v, .slice A xs.length c] 30)))
    refine (l05Set_any v A c xs B d ls _ HA.out hl HB.out hlb).mono ?_; rintro e w_ ⟨rfl, hb⟩; replace HW := Lib.hid (HW.out.below hb); clear hb
    go_wp2
    go_ret2
    exact ⟨by rw [HN.out, if_pos H.out]; rfl, HW.out⟩

theorem implClass_any (v : Int) (A : Option Addr) (c : Nat) (xs : List Blk) (B : Option Addr) (d : Nat) (ls : List Int) (w : World) (hA : Bl w A xs) (hl : xs.length ≤ 1048576) (hB : Il w B ls) (hlb : ls.length ≤ 1048576) (hd : ls.length ≤ d) :
    Calls Try.prog 41 #[.agg #[.int .i64 v, .slice A xs.length c], .slice B ls.length d] w fun e w' => e = .returned (.tuple #[.bool (classR v xs ls).1, .int .i64 (classR v xs ls).2]) ∧ Below w.heap.size w w' := by
  have HB := Lib.hid hB; clear hB
  cases hs : isSysB v xs
  · have HN : Hid (classR v xs ls = (false, 1)) := by unfold Hid classR setCode; simp [hs]
    generalize classR v xs ls = R at *
    have HA := Lib.hid hA; clear hA; have HR := Lib.hid (Row.box w 30 (.int .i64 v) (.slice A xs.length c)); have HW := Lib.hid (Since.refl w); go_enter Try.func41, Try.ntmps41; go_wp2_with fail; replace HA := Lib.hid (HA.out.below (below_alloc _ (.cells #[.int .i64 v, .slice A xs.length c] 30))); replace HW := Lib.hid (HW.out.below (below_alloc _ (.cells #[.int .i64 v, .slice A xs.length c] 30))); replace HB := Lib.hid (HB.out.below (below_alloc _ (.cells #[.int .i64 v, .slice A xs.length c] 30)))
    refine (IsSystem_any v A c xs _ HA.out hl).mono ?_; rw [hs]; rintro e w_ ⟨rfl, hb⟩; replace HW := Lib.hid (HW.out.below hb); clear hb
    go_wp2
    go_ret2
    exact ⟨by rw [HN.out]; rfl, HW.out⟩
  · cases hr : risesB ls xs.length
    · have HN : Hid (classR v xs ls = (false, 2)) := by unfold Hid classR setCode; simp [hs, hr]
      generalize classR v xs ls = R at *
      have HA := Lib.hid hA; clear hA; have HR := Lib.hid (Row.box w 30 (.int .i64 v) (.slice A xs.length c)); have HW := Lib.hid (Since.refl w); go_enter Try.func41, Try.ntmps41; go_wp2_with fail; replace HA := Lib.hid (HA.out.below (below_alloc _ (.cells #[.int .i64 v, .slice A xs.length c] 30))); replace HW := Lib.hid (HW.out.below (below_alloc _ (.cells #[.int .i64 v, .slice A xs.length c] 30))); replace HB := Lib.hid (HB.out.below (below_alloc _ (.cells #[.int .i64 v, .slice A xs.length c] 30)))
      refine (IsSystem_any v A c xs _ HA.out hl).mono ?_; rw [hs]; rintro e w_ ⟨rfl, hb⟩; replace HA := Lib.hid (HA.out.below hb); replace HB := Lib.hid (HB.out.below hb); replace HW := Lib.hid (HW.out.below hb); replace HR := Lib.hid (HR.out.below hb); clear hb; (try clear c0 c1); obtain ⟨c0, c1⟩ := HR.out.c2
      go_wp2_with fail
      refine (areNumbers_any v A c xs B d ls _ hl HB.out hlb).mono ?_; rw [hr]; rintro e w_ ⟨rfl, hb⟩; replace HW := Lib.hid (HW.out.below hb); clear hb
      go_wp2
      go_ret2
      exact ⟨by rw [HN.out]; rfl, HW.out⟩
    · have HN : Hid (classR v xs ls = (decide (3 * (ls.length : Int) = v) && apartB xs ls, 0)) := by unfold Hid classR setCode; simp [hs, hr]
      have HRI := Lib.hid (risesB_iff.1 hr)
      generalize classR v xs ls = R at *
      have HA := Lib.hid hA; clear hA; have HR := Lib.hid (Row.box w 30 (.int .i64 v) (.slice A xs.length c)); have HW := Lib.hid (Since.refl w); go_enter Try.func41, Try.ntmps41; go_wp2_with fail; replace HA := Lib.hid (HA.out.below (below_alloc _ (.cells #[.int .i64 v, .slice A xs.length c] 30))); replace HW := Lib.hid (HW.out.below (below_alloc _ (.cells #[.int .i64 v, .slice A xs.length c] 30))); replace HB := Lib.hid (HB.out.below (below_alloc _ (.cells #[.int .i64 v, .slice A xs.length c] 30)))
      refine (IsSystem_any v A c xs _ HA.out hl).mono ?_; rw [hs]; rintro e w_ ⟨rfl, hb⟩; replace HA := Lib.hid (HA.out.below hb); replace HB := Lib.hid (HB.out.below hb); replace HW := Lib.hid (HW.out.below hb); replace HR := Lib.hid (HR.out.below hb); clear hb; (try clear c0 c1); obtain ⟨c0, c1⟩ := HR.out.c2
      go_wp2_with fail
      refine (areNumbers_any v A c xs B d ls _ hl HB.out hlb).mono ?_; rw [hr]; rintro e w_ ⟨rfl, hb⟩; replace HA := Lib.hid (HA.out.below hb); replace HB := Lib.hid (HB.out.below hb); replace HW := Lib.hid (HW.out.below hb); replace HR := Lib.hid (HR.out.below hb); clear hb; (try clear c0 c1); obtain ⟨c0, c1⟩ := HR.out.c2
      go_wp2_with fail
      refine (isClass_any v A c xs B d ls _ HA.out hl HB.out hlb hd HRI.out).mono ?_; rintro e w_ ⟨rfl, hb⟩; replace HW := Lib.hid (HW.out.below hb); clear hb
      go_wp2
      go_ret2
      exact ⟨by rw [HN.out]; rfl, HW.out⟩

end Go.Proofs.Ytbiepcafnhhfgaa
