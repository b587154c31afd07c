/- Contracts: meets, numbersOf; conditions: stated in each. -/
import Derived.Test.YtpdkkbimhhhjmaaW1
import Derived.Test.YtpdkkbimhhhjmaaM2
namespace Go.Proofs.Ytpdkkbimhhhjmaa
open Go.RowKit
set_option maxHeartbeats 400000
set_option linter.unusedSimpArgs false
set_option linter.unusedVariables false

theorem meets_any (a b : Blk) (w : World) :
    Calls Try.prog 110 #[.agg #[.int .i64 a.1, .int .i64 a.2.1, .int .i64 a.2.2], .agg #[.int .i64 b.1, .int .i64 b.2.1, .int .i64 b.2.2]] w fun e w' => e = .returned (.bool (meetB a b)) ∧ Below w.heap.size w w' := by
  have hM : Hid (meetB a b = (hasB b a.1 || hasB b a.2.1 || hasB b a.2.2)) := rfl
  generalize meetB a b = M at *
  cases h0 : hasB b a.1
  · cases h1 : hasB b a.2.1
    · skip
      go_enter Try.func110, Try.ntmps110
      obtain ⟨hA0, hB0, hW0⟩ := Box.two w a b 72
      have HA0 := Lib.hid hA0; have HB0 := Lib.hid hB0; have HW0 := Lib.hid hW0; clear hA0 hB0 hW0
      go_wp2_with fail
      refine (has_any b _ _).mono ?_
      rintro e w1 ⟨rfl, hb⟩
      have HA1 := Lib.hid (HA0.out.below hb); have HB1 := Lib.hid (HB0.out.below hb)
      have HW1 : Hid (Below w.heap.size w w1) := below_up HW0.out hb
      clear hb
      obtain ⟨q0, q1, q2⟩ := HA1.out.three; obtain ⟨r0, r1, r2⟩ := HB1.out.three
      go_wp2_with fail
      clear q0 q1 q2 r0 r1 r2
      refine (has_any b _ _).mono ?_
      rintro e w2 ⟨rfl, hb⟩
      have HA2 := Lib.hid (HA1.out.below hb); have HB2 := Lib.hid (HB1.out.below hb)
      have HW2 : Hid (Below w.heap.size w w2) := below_up HW1.out hb
      clear hb
      obtain ⟨q0, q1, q2⟩ := HA2.out.three; obtain ⟨r0, r1, r2⟩ := HB2.out.three
      go_wp2_with fail
      clear q0 q1 q2 r0 r1 r2
      refine (has_any b _ _).mono ?_
      rintro e w3 ⟨rfl, hb⟩
      have HA3 := Lib.hid (HA2.out.below hb); have HB3 := Lib.hid (HB2.out.below hb)
      have HW3 : Hid (Below w.heap.size w w3) := below_up HW2.out hb
      clear hb
      obtain ⟨q0, q1, q2⟩ := HA3.out.three; obtain ⟨r0, r1, r2⟩ := HB3.out.three
      go_wp2
      go_ret
      exact ⟨ret_bool (by rw [hM.out, h0, h1]; rfl), HW3.out⟩
    · skip
      go_enter Try.func110, Try.ntmps110
      obtain ⟨hA0, hB0, hW0⟩ := Box.two w a b 72
      have HA0 := Lib.hid hA0; have HB0 := Lib.hid hB0; have HW0 := Lib.hid hW0; clear hA0 hB0 hW0
      go_wp2_with fail
      refine (has_any b _ _).mono ?_
      rintro e w1 ⟨rfl, hb⟩
      have HA1 := Lib.hid (HA0.out.below hb); have HB1 := Lib.hid (HB0.out.below hb)
      have HW1 : Hid (Below w.heap.size w w1) := below_up HW0.out hb
      clear hb
      obtain ⟨q0, q1, q2⟩ := HA1.out.three; obtain ⟨r0, r1, r2⟩ := HB1.out.three
      go_wp2_with fail
      clear q0 q1 q2 r0 r1 r2
      refine (has_any b _ _).mono ?_
      rintro e w2 ⟨rfl, hb⟩
      have HA2 := Lib.hid (HA1.out.below hb); have HB2 := Lib.hid (HB1.out.below hb)
      have HW2 : Hid (Below w.heap.size w w2) := below_up HW1.out hb
      clear hb
      obtain ⟨q0, q1, q2⟩ := HA2.out.three; obtain ⟨r0, r1, r2⟩ := HB2.out.three
      go_wp2
      go_ret
      exact ⟨ret_bool (by rw [hM.out, h0, h1]; rfl), HW2.out⟩
  · skip
    go_enter Try.func110, Try.ntmps110
    obtain ⟨hA0, hB0, hW0⟩ := Box.two w a b 72
    have HA0 := Lib.hid hA0; have HB0 := Lib.hid hB0; have HW0 := Lib.hid hW0; clear hA0 hB0 hW0
    go_wp2_with fail
    refine (has_any b _ _).mono ?_
    rintro e w1 ⟨rfl, hb⟩
    have HA1 := Lib.hid (HA0.out.below hb); have HB1 := Lib.hid (HB0.out.below hb)
    have HW1 : Hid (Below w.heap.size w w1) := below_up HW0.out hb
    clear hb
    obtain ⟨q0, q1, q2⟩ := HA1.out.three; obtain ⟨r0, r1, r2⟩ := HB1.out.three
    go_wp2
    go_ret
    exact ⟨ret_bool (by rw [hM.out, h0]; rfl), HW1.out⟩

theorem infoInt' : (Try.prog.info? 2).map (fun i => (i.zero, i.size, i.bytes)) = some (some (.int .i64 0), 1, 8) := by kernel_rfl

theorem numbersOf_any (v : Int) (A : Option Addr) (c : Nat) (xs : List Blk) (g : Nat) (lb : Array Value) (p : Blk → Bool) (w : World) (hA : Bl w A xs) (hl : xs.length ≤ 1048576)
    (eg : ∀ args w, (callFunc g args).run Try.prog w = .ok (.enter g args) w)
    (hp : ∀ (W : World) (b : Blk), Below w.heap.size w W → Calls Try.prog g (#[.agg #[.int .i64 b.1, .int .i64 b.2.1, .int .i64 b.2.2]] ++ lb) W fun e w' => e = .returned (.bool (p b)) ∧ Below W.heap.size W w') :
    Calls Try.prog 62 #[.agg #[.int .i64 v, .slice A xs.length c], .func (.func g) #[] lb] w fun e w' => ∃ u, e = .returned u ∧ w'.ownsRow w.heap.size 2 1 u (nums p xs).length ((nums p xs).map (Value.int .i64)) ∧ Below w.heap.size w w' := by
  obtain ⟨i0, hi, hz0, hz1, hz2⟩ := info_parts infoInt'
  have HA := Lib.hid hA; have HP := Lib.hid hp; clear hA hp
  go_enter Try.func62, Try.ntmps62
  go_wp2
  have HA1 := Lib.hid (HA.out.below (below_alloc w (.cells #[.int .i64 v, .slice A xs.length c] 30)))
  have HW := Lib.hid (below_alloc w (.cells #[.int .i64 v, .slice A xs.length c] 30))
  generalize w.alloc _ = W at *
  go_loopw [5, 11] (fun u i wr => ∃ k : Nat, k ≤ xs.length ∧ i = .int .i64 k ∧ Hid (Below W.heap.size W wr ∧ wr.ownsRow W.heap.size 2 1 u (numsN p xs k).length ((numsN p xs k).map (Value.int .i64)))) (fun _ i _ => xs.length - (intOf i).toNat)
  case atStart => exact ⟨0, by omega, rfl, Below.refl _ _, World.ownsRow_nil _ _ _ _⟩
  case round =>
    obtain ⟨k, hk, rfl, HC⟩ := hrel
    by_cases hlt : k < xs.length
    · obtain ⟨b1, o1, hA1, hb1, p0, p1, p2⟩ := (HA1.out.below HC.out.1).at_ hlt
      subst hA1
      have HB1 := Lib.hid (HW.out.trans (HC.out.1.mono HW.out.size))
      go_wp2_with fail
      refine (HP.out _ (nth xs k) (HB1.out.alloc HB1.out.size _)).mono ?_
      rintro e w1 ⟨rfl, hb⟩
      have HB2 : Hid (Below W.heap.size W w1) := below_up (HC.out.1.alloc HC.out.1.size _) hb
      have HO : Hid (w1.ownsRow W.heap.size 2 1 u5 (numsN p xs k).length ((numsN p xs k).map (Value.int .i64))) := own_below (HC.out.2.alloc _) hb
      have hnl := numsN_len p xs k
      clear hb
      cases hpk : p (nth xs k)
      · go_wp2
        go_roundw
        case rel => exact ⟨k + 1, by omega, by go_num, HB2.out, by rw [numsN, hpk]; simpa using HO.out⟩
        case measure => simp [intOf]; omega
      · have hbw := HB2.out.size
        go_wp2_with (at_builtin; refine wpList_append_own _ rfl _ _ 34 rfl W.heap.size 2 i0 (.int .i64 0) 1 8 Try.underlying34 hi hz0 hz1 hz2 rfl (by decide) _ _ _ rfl (HO.out.alloc _) ⟨w1.heap.size, 0, none⟩ 1 1 [.int .i64 k] rfl rfl (cells_new _ _ _) (by simp [Value.oneCell']) (by unfold maxLen; omega) (by omega) (by simp; omega) ?_; intro v2 w2 hown2 hg2 _)
        have HO2 := Lib.hid hown2
        have HB3 : Hid (Below W.heap.size W w2) := (HB2.out.alloc HB2.out.size _).grown hg2 (by simp; omega) (own_block HO.out)
        clear hown2 hg2
        go_wp2
        go_roundw
        case rel => exact ⟨k + 1, by omega, by go_num, HB3.out, by rw [numsN, hpk]; simpa using HO2.out⟩
        case measure => simp [intOf]; omega
    · obtain rfl : k = xs.length := by omega
      go_wp2
      go_ret
      exact ⟨_, rfl, own_base HC.out.2 HW.out.size, below_up HW.out HC.out.1⟩

end Go.Proofs.Ytpdkkbimhhhjmaa
