/- Contracts of membership of blocks and of common blocks; conditions: stated in each. -/
import Derived.Test.YtbiepcafnhhfgaaW8
import Derived.Test.YtbiepcafnhhfgaaW9
import Derived.Test.YtbiepcafnhhfgaaP5
namespace Go.Proofs.Ytbiepcafnhhfgaa
open Go.RowKit
set_option maxHeartbeats 400000
set_option maxRecDepth 100000
set_option linter.unusedSimpArgs false
set_option linter.unusedVariables false

theorem l04Member_any (A : Option Addr) (c : Nat) (xs : List Blk) (b : Blk) (w : World) (hA : Bl w A xs) (hl : xs.length ≤ 1048576) :
    Calls Try.prog 101 #[.slice A xs.length c, .agg #[.int .i64 b.1, .int .i64 b.2.1, .int .i64 b.2.2]] w fun e w' => e = .returned (.bool (memL xs b)) ∧ Below w.heap.size w w' := by
  have HX := Lib.hid (Box.new w b 65)
  have HW := Lib.hid (below_alloc w (.cells #[.int .i64 b.1, .int .i64 b.2.1, .int .i64 b.2.2] 65))
  have HA := Lib.hid (hA.below HW.out)
  clear hA
  go_enter Try.func101, Try.ntmps101
  go_wp2
  generalize w.alloc _ = W at *
  go_loopw [5] (fun i wr => ∃ k : Nat, k ≤ xs.length ∧ i = .int .i64 k ∧ Below W.heap.size W wr ∧ Hid (∀ i, i < k → nth xs i ≠ b)) (fun i _ => xs.length - (intOf i).toNat)
  case atStart => exact ⟨0, by omega, rfl, Below.refl _ _, fun i hi => by omega⟩
  case round =>
    obtain ⟨k, hk, rfl, hb, HC⟩ := hrel
    obtain ⟨x0, x1, x2⟩ := (HX.out.below hb).three
    have hsz2 := (HX.out.below hb).1
    by_cases hlt : k < xs.length
    · obtain ⟨b1, o1, hA1, hb1, p0, p1, p2⟩ := (HA.out.below hb).at_ hlt
      subst hA1
      have HE := Lib.hid (eqB_iff (a := nth xs k) (b := b))
      cases hq : eqB (nth xs k) b
      · go_wp2
        go_quiet (fail)
        go_wp2
        go_roundw
        case rel =>
          refine ⟨k + 1, by omega, by go_num, below_drewN hb _, fun i hi => ?_⟩
          by_cases hij : i < k
          · exact HC.out i hij
          · obtain rfl : i = k := by omega
            intro h; rw [HE.out.2 h] at hq; cases hq
        case measure => simp [intOf]; omega
      · go_wp2
        go_quiet (fail)
        go_wp2
        go_ret
        exact ⟨ret_bool (memL_true hlt (HE.out.1 hq)).symm, below_drewN (below_up HW.out hb) _⟩
    · obtain rfl : k = xs.length := by omega
      go_wp2
      go_ret
      exact ⟨ret_bool (memL_false HC.out).symm, below_up HW.out hb⟩

theorem indexB_any (A : Option Addr) (c : Nat) (xs : List Blk) (b : Blk) (w : World) (hA : Bl w A xs) (hl : xs.length ≤ 1048576) :
    Calls Try.prog 121 #[.slice A xs.length c, .agg #[.int .i64 b.1, .int .i64 b.2.1, .int .i64 b.2.2]] w fun e w' => ∃ r : Int, e = .returned (.int .i64 r) ∧ (decide (r ≥ 0) = memL xs b) ∧ Below w.heap.size w w' := by
  have HX := Lib.hid (Box.new w b 65)
  have HW := Lib.hid (below_alloc w (.cells #[.int .i64 b.1, .int .i64 b.2.1, .int .i64 b.2.2] 65))
  have HA := Lib.hid (hA.below HW.out)
  clear hA
  go_enter Try.func121, Try.ntmps121
  go_wp2
  generalize w.alloc _ = W at *
  go_loopw [8] (fun i wr => ∃ k : Nat, k ≤ xs.length ∧ i = .int .i64 k ∧ Below W.heap.size W wr ∧ Hid (∀ i, i < k → nth xs i ≠ b)) (fun i _ => xs.length - (intOf i).toNat)
  case atStart => exact ⟨0, by omega, rfl, Below.refl _ _, fun i hi => by omega⟩
  case round =>
    obtain ⟨k, hk, rfl, hb, HC⟩ := hrel
    obtain ⟨x0, x1, x2⟩ := (HX.out.below hb).three
    have hsz2 := (HX.out.below hb).1
    by_cases hlt : k < xs.length
    · obtain ⟨b1, o1, hA1, hb1, p0, p1, p2⟩ := (HA.out.below hb).at_ hlt
      subst hA1
      have HE := Lib.hid (eqB_iff (a := b) (b := nth xs k))
      cases hq : eqB b (nth xs k)
      · go_wp2
        go_quiet (fail)
        go_wp2
        go_roundw
        case rel =>
          refine ⟨k + 1, by omega, by go_num, below_drewN hb _, fun i hi => ?_⟩
          by_cases hij : i < k
          · exact HC.out i hij
          · obtain rfl : i = k := by omega
            intro h; rw [HE.out.2 h.symm] at hq; cases hq
        case measure => simp [intOf]; omega
      · go_wp2
        go_quiet (fail)
        go_wp2
        go_ret
        exact ⟨(k : Int), rfl, by rw [memL_true hlt (HE.out.1 hq).symm]; simp, below_drewN (below_up HW.out hb) _⟩
    · obtain rfl : k = xs.length := by omega
      go_wp2
      go_ret
      exact ⟨-1, rfl, by rw [memL_false HC.out]; rfl, below_up HW.out hb⟩

theorem containsB_any (A : Option Addr) (c : Nat) (xs : List Blk) (b : Blk) (w : World) (hA : Bl w A xs) (hl : xs.length ≤ 1048576) :
    Calls Try.prog 102 #[.slice A xs.length c, .agg #[.int .i64 b.1, .int .i64 b.2.1, .int .i64 b.2.2]] w fun e w' => e = .returned (.bool (memL xs b)) ∧ Below w.heap.size w w' := by
  have HX := Lib.hid (Box.new w b 65)
  have HW := Lib.hid (below_alloc w (.cells #[.int .i64 b.1, .int .i64 b.2.1, .int .i64 b.2.2] 65))
  have HA := Lib.hid (hA.below HW.out)
  clear hA
  obtain ⟨x0, x1, x2⟩ := HX.out.three
  go_enter Try.func102, Try.ntmps102
  go_wp2_with fail
  refine (indexB_any A c xs b _ HA.out hl).mono ?_
  rintro e w_ ⟨r, rfl, hr, hb⟩
  replace HW := Lib.hid (below_up HW.out hb)
  clear hb
  go_wp2
  go_ret
  exact ⟨ret_bool rfl, HW.out⟩

theorem common_any (A : Option Addr) (c : Nat) (xs : List Blk) (B : Option Addr) (d : Nat) (ys : List Blk) (w : World) (hA : Bl w A xs) (hl : xs.length ≤ 1048576) (hB : Bl w B ys) (hlb : ys.length ≤ 1048576) :
    Calls Try.prog 64 #[.slice A xs.length c, .slice B ys.length d] w fun e w' => ∃ u, e = .returned u ∧ OB w' w.heap.size u (comL xs ys xs.length) ∧ Below w.heap.size w w' := by
  obtain ⟨bi0, hbi, hbi0, hbi1, hbi2⟩ := info_parts infoBlk'
  have HA := Lib.hid hA; have HB := Lib.hid hB; clear hA hB
  go_enter Try.func64, Try.ntmps64
  go_wp2
  go_loopw [5, 10] (fun u i wr => ∃ k : Nat, k ≤ xs.length ∧ i = .int .i64 k ∧ Hid (Below w.heap.size w wr ∧ OB wr w.heap.size u (comL xs ys k))) (fun _ i _ => xs.length - (intOf i).toNat)
  case atStart => exact ⟨0, by omega, rfl, Below.refl _ _, World.ownsRow_nil _ _ _ _⟩
  case round =>
    obtain ⟨k, hk, rfl, HC⟩ := hrel
    by_cases hlt : k < xs.length
    · obtain ⟨b1, o1, hA1, hb1, p0, p1, p2⟩ := (HA.out.below HC.out.1).at_ hlt
      subst hA1
      have HX := Lib.hid (Box.new wr (nth xs k) 65)
      have hal := below_alloc wr (.cells #[.int .i64 (nth xs k).1, .int .i64 (nth xs k).2.1, .int .i64 (nth xs k).2.2] 65)
      have HAL := Lib.hid hal; clear hal
      have hlen := comL_len xs ys k
      go_wp2_with fail
      refine (containsB_any B d ys (nth xs k) _ ((HB.out.below HC.out.1).below HAL.out) hlb).mono ?_
      rintro e w1 ⟨rfl, hb⟩
      obtain ⟨x0, x1, x2⟩ := (HX.out.below hb).three
      have HB2 : Hid (Below w.heap.size w w1) := below_up (below_up HC.out.1 HAL.out) hb
      have HO : Hid (w1.ownsRow w.heap.size 65 3 u5 (comL xs ys k).length (cells3' (comL xs ys k))) := own_below (own_below HC.out.2 HAL.out) hb
      clear hb
      have HN : Hid (comL xs ys (k + 1) = comL xs ys k ++ (if memL ys (nth xs k) = true then [nth xs k] else [])) := rfl
      cases hm : memL ys (nth xs k)
      · go_wp2
        go_roundw
        case rel => exact ⟨k + 1, by omega, by go_num, HB2.out, by rw [HN.out, if_neg (by simp [hm]), List.append_nil]; exact HO.out⟩
        case measure => simp [intOf]; omega
      · have hbw_ := HB2.out.size; go_wp2_with (at_builtin; refine wpList_append_own _ rfl _ _ 28 rfl (w).heap.size 65 bi0 (.agg #[.int .i64 0, .int .i64 0, .int .i64 0]) 3 24 Try.underlying28 hbi hbi0 hbi1 hbi2 rfl (by decide) _ _ _ rfl (HO.out.alloc _) ⟨(w1).heap.size, 0, none⟩ 1 1 [.int .i64 ((nth xs k).1), .int .i64 ((nth xs k).2.1), .int .i64 ((nth xs k).2.2)] rfl rfl (cells_new _ _ _) (by simp [Value.oneCell']) (by unfold maxLen; omega) (by omega) (by simp; omega) ?_; intro v2 w2 hown2 hg2 _); have HO2 := Lib.hid hown2; have HB3 : Hid (Below (w).heap.size (w) w2) := (HB2.out.alloc HB2.out.size _).grown hg2 (by simp; omega) (own_block HO.out); clear hown2 hg2 hbw_
        go_wp2
        go_roundw
        case rel => exact ⟨k + 1, by omega, by go_num, HB3.out, by rw [HN.out, if_pos hm]; exact OB.snoc HO2.out⟩
        case measure => simp [intOf]; omega
    · obtain rfl : k = xs.length := by omega
      go_wp2
      go_ret
      exact ⟨_, rfl, HC.out.2, HC.out.1⟩

end Go.Proofs.Ytbiepcafnhhfgaa
