/- Contracts for AreDisjoint and IsClass, of the reference and of the program; conditions: stated in each. -/
import Derived.Test.YtbiepcafnhhfgaaW5
import Derived.Test.YtbiepcafnhhfgaaW7
import Derived.Test.YtbiepcafnhhfgaaP3
namespace Go.Proofs.Ytbiepcafnhhfgaa
open Go.RowKit
set_option maxHeartbeats 400000
set_option linter.unusedSimpArgs false
set_option linter.unusedVariables false

/-- the code of a system and of a set of blocks -/
noncomputable def setCode (v : Int) (xs : List Blk) (ls : List Int) : Int := if isSysB v xs = true then (if risesB ls xs.length = true then 0 else 2) else 1
theorem setCode_zero {v : Int} {xs : List Blk} {ls : List Int} (h : setCode v xs ls = 0) : isSysB v xs = true ∧ risesB ls xs.length = true := by
  unfold setCode at h; (repeat' split at h) <;> simp_all

theorem l05Set_any (v : Int) (A : Option Addr) (c : Nat) (xs : List Blk) (B : Option Addr) (d : Nat) (ls : List Int) (w : World) (hA : Bl w A xs) (hl : xs.length ≤ 1048576) (hB : Il w B ls) (hlb : ls.length ≤ 1048576) :
    Calls Try.prog 69 #[.agg #[.int .i64 v, .slice A xs.length c], .slice B ls.length d] w fun e w' => e = .returned (.int .i64 (setCode v xs ls)) ∧ Below w.heap.size w w' := by
  have HB := Lib.hid hB; clear hB
  cases hs : isSysB v xs
  · have HA := Lib.hid hA; clear hA; have HR := Lib.hid (Row.box w 30 (.int .i64 v) (.slice A xs.length c)); have HW := Lib.hid (Since.refl w); go_enter Try.func69, Try.ntmps69; go_wp2_with fail; replace HA := Lib.hid (HA.out.below (below_alloc _ (.cells #[.int .i64 v, .slice A xs.length c] 30))); replace HW := Lib.hid (HW.out.below (below_alloc _ (.cells #[.int .i64 v, .slice A xs.length c] 30)))
    refine (l01Is_any v A c xs _ HA.out hl).mono ?_; rw [hs]; rintro e w_ ⟨rfl, hb⟩; replace HW := Lib.hid (HW.out.below hb); clear hb
    go_wp2
    go_ret
    exact ⟨ret_int (by simp [setCode, hs]), HW.out⟩
  · have HA := Lib.hid hA; clear hA; have HR := Lib.hid (Row.box w 30 (.int .i64 v) (.slice A xs.length c)); have HW := Lib.hid (Since.refl w); go_enter Try.func69, Try.ntmps69; go_wp2_with fail; replace HA := Lib.hid (HA.out.below (below_alloc _ (.cells #[.int .i64 v, .slice A xs.length c] 30))); replace HW := Lib.hid (HW.out.below (below_alloc _ (.cells #[.int .i64 v, .slice A xs.length c] 30))); replace HB := Lib.hid (HB.out.below (below_alloc _ (.cells #[.int .i64 v, .slice A xs.length c] 30)))
    refine (l01Is_any v A c xs _ HA.out hl).mono ?_; rw [hs]; rintro e w_ ⟨rfl, hb⟩; replace HB := Lib.hid (HB.out.below hb); replace HW := Lib.hid (HW.out.below hb); replace HR := Lib.hid (HR.out.below hb); clear hb; (try clear c0 c1); obtain ⟨c0, c1⟩ := HR.out.c2
    go_wp2
    have HL := Lib.hid HR.out.lt
    clear c0 c1
    go_loopw [5] (fun i wr => ∃ k : Nat, k ≤ ls.length ∧ i = .int .i64 k ∧ Below w_.heap.size w_ wr ∧ Hid (∀ j, j < k → (0 ≤ nthI ls j ∧ nthI ls j ≤ (xs.length : Int) - 1) ∧ (0 < j → nthI ls (j - 1) < nthI ls j))) (fun i _ => ls.length - (intOf i).toNat)
    case atStart => exact ⟨0, by omega, rfl, Below.refl _ _, fun i hi => by omega⟩
    case round =>
      obtain ⟨k, hk, rfl, hb, HC⟩ := hrel
      obtain ⟨c0, c1⟩ := (HR.out.below hb).c2
      have hsz := (HR.out.below hb).lt
      by_cases hlt : k < ls.length
      · obtain ⟨b1, o1, hA1, hb1, p0⟩ := (HB.out.below hb).at_ hlt
        subst hA1
        by_cases hin : 0 ≤ nthI ls k ∧ nthI ls k ≤ (xs.length : Int) - 1
        · have hin' := decide_eq_true hin
          have HIN := Lib.hid hin
          clear hin
          by_cases hk0 : 0 < k
          · obtain ⟨b2, o2, hA2, hb2, q0⟩ := (HB.out.below hb).at_ (k := k - 1) (by omega)
            simp only [Option.some.injEq, Addr.mk.injEq] at hA2
            obtain ⟨rfl, rfl, -⟩ := hA2
            by_cases hlo : nthI ls (k - 1) < nthI ls k
            · have hlo' : decide (nthI ls k ≤ nthI ls (k - 1)) = false := by simpa using hlo
              have HLO := Lib.hid hlo
              clear hlo
              go_wp2
              refine wp_region_ge_lit (by kernel_rfl) (by kernel_rfl) ?_; (repeat (go_big_quiet_step ((go_at_call 65; exact ge_call_same (l01In_any _ _ _ _))))); refine wpQuiet_nil ?_
              rintro w1 ⟨x, rfl⟩
              go_wp2
              go_roundw
              case rel =>
                refine ⟨k + 1, by omega, by go_num, below_up hb (ge_below _ _), fun j hj => ?_⟩
                by_cases hjk : j < k
                · exact HC.out j hjk
                · obtain rfl : j = k := by omega
                  exact ⟨HIN.out, fun _ => HLO.out⟩
              case measure => simp [intOf]; omega
            · have hlo' : decide (nthI ls k ≤ nthI ls (k - 1)) = true := by simpa using hlo
              have HLO := Lib.hid hlo
              clear hlo
              go_wp2
              refine wp_region_ge_lit (by kernel_rfl) (by kernel_rfl) ?_; (repeat (go_big_quiet_step ((go_at_call 65; exact ge_call_same (l01In_any _ _ _ _))))); refine wpQuiet_nil ?_
              rintro w1 ⟨x, rfl⟩
              go_wp2
              go_ret
              refine ⟨ret_int ?_, HW.out.below (below_up hb (ge_below _ _))⟩
              rw [setCode, if_pos hs, if_neg]
              exact fun h => absurd ((risesB_iff.1 h k hlt).2 hk0) (by have := HLO.out; omega)
          · obtain rfl : k = 0 := by omega
            rw [Nat.add_zero] at p0
            go_wp2
            refine wp_region_ge_lit (by kernel_rfl) (by kernel_rfl) ?_; (repeat (go_big_quiet_step ((go_at_call 65; exact ge_call_same (l01In_any _ _ _ _))))); refine wpQuiet_nil ?_
            rintro w1 ⟨x, rfl⟩
            go_wp2
            go_roundw
            case rel =>
              refine ⟨1, by omega, rfl, below_up hb (ge_below _ _), fun j hj => ?_⟩
              obtain rfl : j = 0 := by omega
              exact ⟨HIN.out, fun h => by omega⟩
            case measure => simp [intOf]; omega
        · have hin' := decide_eq_false hin
          have HIN := Lib.hid hin
          clear hin
          go_wp2
          refine wp_region_ge_lit (by kernel_rfl) (by kernel_rfl) ?_; (repeat (go_big_quiet_step ((go_at_call 65; exact ge_call_same (l01In_any _ _ _ _))))); refine wpQuiet_nil ?_
          rintro w1 ⟨x, rfl⟩
          go_wp2
          go_ret
          refine ⟨ret_int ?_, HW.out.below (below_up hb (ge_below _ _))⟩
          rw [setCode, if_pos hs, if_neg]
          exact fun h => HIN.out (risesB_iff.1 h k hlt).1
      · obtain rfl : k = ls.length := by omega
        go_wp2
        go_ret
        refine ⟨ret_int ?_, HW.out.below hb⟩
        rw [setCode, if_pos hs, if_pos (risesB_true HC.out)]

theorem areNumbers_any (v : Int) (A : Option Addr) (c : Nat) (xs : List Blk) (B : Option Addr) (d : Nat) (ls : List Int) (w : World) (hl : xs.length ≤ 1048576) (hB : Il w B ls) (hlb : ls.length ≤ 1048576) :
    Calls Try.prog 71 #[.agg #[.int .i64 v, .slice A xs.length c], .slice B ls.length d] w fun e w' => e = .returned (.bool (risesB ls xs.length)) ∧ Below w.heap.size w w' := by
  have HB := Lib.hid hB; clear hB
  have HW := Lib.hid (below_alloc w (.cells #[.int .i64 v, .slice A xs.length c] 30))
  go_enter Try.func71, Try.ntmps71
  go_wp2_with fail
  refine (rises_any B d ls xs.length _ (HB.out.below HW.out) hlb (by omega) (by omega)).mono ?_
  rintro e w' ⟨rfl, rfl⟩
  go_wp2
  go_ret
  exact ⟨rfl, HW.out⟩

theorem l05Bits_any (b : Blk) (w : World) (hg : goodB 15 b = true) :
    Calls Try.prog 103 #[.agg #[.int .i64 b.1, .int .i64 b.2.1, .int .i64 b.2.2]] w fun e w' => e = .returned (.int .i64 (maskB b : Nat)) ∧ Below w.heap.size w w' := by
  obtain ⟨h0, h1, h2, h3⟩ := good_bd hg
  obtain ⟨x, y, z⟩ := b
  dsimp only at *
  obtain ⟨X, rfl⟩ := Int.eq_ofNat_of_zero_le h0
  obtain ⟨Y, rfl⟩ := Int.eq_ofNat_of_zero_le (by omega : 0 ≤ y)
  obtain ⟨Z, rfl⟩ := Int.eq_ofNat_of_zero_le (by omega : 0 ≤ z)
  have hp : ∀ n : Nat, n < 15 → 2 ^ n < 32768 := fun n hn => Nat.pow_lt_pow_right (by omega) hn
  have hx := hp X (by omega); have hy := hp Y (by omega); have hz := hp Z (by omega)
  have HM : Hid ((maskB ((X : Int), (Y : Int), (Z : Int)) : Nat) = 2 ^ X + 2 ^ Y + 2 ^ Z) := rfl
  generalize maskB _ = M at *
  have HX := Lib.hid hx; have HY := Lib.hid hy; have HZ := Lib.hid hz
  clear hp hx hy hz hg
  go_enter Try.func103, Try.ntmps103
  go_wp2
  go_ret
  refine ⟨ret_int ?_, below_alloc _ _⟩
  have hx := HX.out; have hy := HY.out; have hz := HZ.out
  have ex : ∀ n : Nat, ((2 : Int) ^ n) = ((2 ^ n : Nat) : Int) := fun n => by push_cast; rfl
  rw [HM.out, ex, ex, ex]
  generalize 2 ^ X = a at *
  generalize 2 ^ Y = b at *
  generalize 2 ^ Z = c at *
  go_unwrap
  push_cast
  rfl

end Go.Proofs.Ytbiepcafnhhfgaa
