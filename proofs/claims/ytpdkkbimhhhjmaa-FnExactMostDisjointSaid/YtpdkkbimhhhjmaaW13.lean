/- Contracts of the count of sets of disjoint blocks; conditions: stated in each. -/
import Derived.Test.YtpdkkbimhhhjmaaQDis
import Derived.Test.YtpdkkbimhhhjmaaP8
namespace Go.Proofs.Ytpdkkbimhhhjmaa
open Go.RowKit
set_option maxHeartbeats 400000
set_option maxRecDepth 100000
set_option linter.unusedSimpArgs false
set_option linter.unusedVariables false

theorem l05Count_any (v : Int) (A : Option Addr) (c : Nat) (xs : List Blk) (hs : isSys v xs) : ∀ (d m a : Nat) (w : World), d ≤ 5 → m < 32768 → Bl w A xs →
    Calls Try.prog 53 #[.agg #[.int .i64 v, .slice A xs.length c], .int .i64 d, .int .i64 m, .int .i64 a] w fun e w' => e = .returned (.int .i64 (cntS xs d m a : Nat)) ∧ Below w.heap.size w w' := by
  intro d
  induction d with
  | zero =>
    intro m a w _ _ hA
    have HW := Lib.hid (below_alloc w (.cells #[.int .i64 v, .slice A xs.length c] 30))
    go_enter Try.func53, Try.ntmps53
    go_wp2
    go_ret
    exact ⟨rfl, HW.out⟩
  | succ d ih =>
    intro m a w hd hm hA
    have HIH := Lib.hid ih; clear ih
    have hl := hs.2.1
    have hv15 := hs.1.2
    have HAR : Hid (areB v xs) := hs.2.2.1
    have hp15 := pow15 hs.1.2
    have HA := Lib.hid (hA.below (below_alloc w (.cells #[.int .i64 v, .slice A xs.length c] 30)))
    have HR := Lib.hid (Row.box w 30 (.int .i64 v) (.slice A xs.length c))
    have HW := Lib.hid (below_alloc w (.cells #[.int .i64 v, .slice A xs.length c] 30))
    have HE : Hid (cntS xs (d + 1) m a = loopS (fun i => cntS xs d (m ||| maskB (nth xs i)) (i + 1)) (fun i => maskB (nth xs i) &&& m == 0) a xs.length) := rfl
    have HB0 := Lib.hid (fun i => loopS_bd (f := fun i => cntS xs d (m ||| maskB (nth xs i)) (i + 1)) (p := fun i => maskB (nth xs i) &&& m == 0) (a := a) (fun i => cnt_bd hl d (m ||| maskB (nth xs i)) (i + 1)) i)
    have hpw : 35 ^ d ≤ 1500625 := by
      have : 35 ^ d ≤ 35 ^ 4 := Nat.pow_le_pow_right (by omega) (by omega)
      simpa using this
    have HCB := Lib.hid (fun m' a' => cnt_bd hl d m' a')
    have HSN : Hid (∀ i, i < a + 1 → loopS (fun i => cntS xs d (m ||| maskB (nth xs i)) (i + 1)) (fun i => maskB (nth xs i) &&& m == 0) a i = 0) := fun i hi => loopS_nil _ _ _ _ (by omega)
    clear hA hs
    obtain ⟨K, hK⟩ : ∃ K : Nat, K = d + 1 := ⟨_, rfl⟩
    have hKd : (K : Int) - 1 = d := by omega
    have hK5 : K ≤ 5 := by omega
    rw [← hK] at HE ⊢
    have HK := Lib.hid hK; clear hK
    have hz : ((K : Int) == 0) = false := by rw [beq_eq_false_iff_ne]; have := HK.out; omega
    go_enter Try.func53, Try.ntmps53
    go_wp2
    generalize w.alloc _ = W at *
    have HST : Hid (∀ i, loopS (fun i => cntS xs d (m ||| maskB (nth xs i)) (i + 1)) (fun i => maskB (nth xs i) &&& m == 0) a (i + 1) = loopS (fun i => cntS xs d (m ||| maskB (nth xs i)) (i + 1)) (fun i => maskB (nth xs i) &&& m == 0) a i + (if a ≤ i ∧ (maskB (nth xs i) &&& m == 0) = true then cntS xs d (m ||| maskB (nth xs i)) (i + 1) else 0)) := fun i => rfl
    generalize loopS (fun i => cntS xs d (m ||| maskB (nth xs i)) (i + 1)) (fun i => maskB (nth xs i) &&& m == 0) a = S at *
    go_loopw [9, 10] (fun q i wr => ∃ k : Nat, a ≤ k ∧ i = .int .i64 k ∧ q = .int .i64 (S (min k xs.length) : Nat) ∧ Below W.heap.size W wr) (fun _ i _ => xs.length - (intOf i).toNat)
    case atStart => exact ⟨a, Nat.le_refl _, rfl, by rw [HSN.out _ (by omega)]; rfl, Below.refl _ _⟩
    case round =>
      obtain ⟨k, hka, rfl, rfl, hb⟩ := hrel
      obtain ⟨c0, c1⟩ := (HR.out.below hb).c2
      have hsz := (HR.out.below hb).lt
      by_cases hlt : k < xs.length
      · obtain ⟨b1, o1, hA1, hb1, p0, p1, p2⟩ := (HA.out.below hb).at_ hlt
        subst hA1
        have hmin : min k xs.length = k := by omega
        have hmin2 : min (k + 1) xs.length = k + 1 := by omega
        rw [hmin]
        have hg := (HAR.out k hlt).1
        have hml := maskB_lt hg
        have HG : Hid (goodB 15 (nth xs k) = true) := good_mono hg hv15
        have hand := bits_and_nat (maskB (nth xs k)) m (by omega) (by omega)
        have hor := bits_or_nat m (maskB (nth xs k)) (by omega) (by omega)
        have hol : m ||| maskB (nth xs k) < 32768 := by
          have : m ||| maskB (nth xs k) < 2 ^ 15 := Nat.or_lt_two_pow (by simpa using hm) (by simp; omega)
          simpa using this
        have hSk : S k ≤ 52521875 := by
          have h1 := HB0.out k
          have h2 : k * 35 ^ d ≤ 35 * 1500625 := Nat.mul_le_mul (by omega) hpw
          omega
        have hCk : cntS xs d (m ||| maskB (nth xs k)) (k + 1) ≤ 1500625 := Nat.le_trans (HCB.out _ _) hpw
        have HSTk := Lib.hid (HST.out k)
        clear hg hml
        by_cases hzz : maskB (nth xs k) &&& m = 0
        · rw [hzz] at hand
          have HZ := Lib.hid hzz; clear hzz
          go_wp2_with fail
          refine (l05Bits_any _ _ HG.out).mono ?_
          rintro e w1 ⟨rfl, hb1'⟩
          have HB1 := Lib.hid (below_up hb hb1'); clear hb1' c0 c1
          obtain ⟨c0, c1⟩ := (HR.out.below HB1.out).c2
          go_wp2_with fail
          refine (HIH.out (m ||| maskB (nth xs k)) (k + 1) _ (by omega) hol (HA.out.below HB1.out)).mono ?_
          rintro e w2 ⟨rfl, hb2'⟩
          have HB2 := Lib.hid (below_up HB1.out hb2'); clear hb2' c0 c1
          go_wp2
          go_roundw
          case rel => exact ⟨k + 1, by omega, by go_num, val_int (by rw [hmin2, HSTk.out, if_pos ⟨hka, by rw [HZ.out]; rfl⟩]; push_cast; rfl), HB2.out⟩
          case measure => simp [intOf]; omega
        · have hne : (bits .and .i64 (maskB (nth xs k) : Int) (m : Int) == 0) = false := by rw [hand, beq_eq_false_iff_ne]; exact_mod_cast hzz
          have HZ := Lib.hid hzz; clear hzz hand
          go_wp2_with fail
          refine (l05Bits_any _ _ HG.out).mono ?_
          rintro e w1 ⟨rfl, hb1'⟩
          have HB1 := Lib.hid (below_up hb hb1'); clear hb1' c0 c1
          go_wp2
          go_roundw
          case rel => exact ⟨k + 1, by omega, by go_num, val_int (by rw [hmin2, HSTk.out, if_neg (fun h => HZ.out (by simpa using h.2))]; rfl), HB1.out⟩
          case measure => simp [intOf]; omega
      · have hmin : min k xs.length = xs.length := by omega
        rw [hmin]
        go_wp2
        go_ret
        exact ⟨ret_int (by rw [HE.out]), below_up HW.out hb⟩

end Go.Proofs.Ytpdkkbimhhhjmaa
